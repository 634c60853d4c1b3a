/- Mn, 6: texts of this claim, one behind the other: Kf9 Ki1. No condition. -/
import Derived.Test.YtcambhbmobepjaaGreatMn5
namespace Go.Proofs.YtcambhbmobepjaaGreat
set_option linter.unusedSimpArgs false
set_option linter.unusedVariables false
open Go.RowKit
set_option maxRecDepth 100000
noncomputable section
-- FAST

-- DEFS
abbrev ctlS : List Sh := [.int .i64, .int .i64, .sl [.int .u8]]
def un (d : D) : D := .l d.raw
abbrev opK (id : Int) : AV := .agg [kk 9, kk id, kk 1, askK, kk 10, kk 0, kk 0, kk 7, kk 9, kk 1492, kk 0, kk 10]
def FNoneP : List AV → RT AV
  | [x0, x1, .agg [.sc false (.int .i64 c), .sc false (.int .i64 i), .sl false [.int .u8] d none], x3] => bif eqAL [x0, x1, x3] [cfK, tg oA4R 0, kk 3] then need false (decide ((c < 1 ∨ 11 < c) ∧ enc7E c i d = 0)) 261 (.ok (.tup [opK 2, .sl true ctlS (.l [.t [.ki 7, .ki 2, un (rej7D c i d 2)]]) none, .sl true [.int .i64] (.l [.t [.ki 12]]) none])) else .bad 262
  | _ => .bad 263
def FNoneR : List AV → RT AV
  | [x0, x1, .agg [.sc false (.int .i64 p), .sl false [.int .u8] d none]] => bif eqAL [x0, x1] [cfK, tg oA4R 0] then .br (join7E p d != 0) (.ok (.tup [opK 1, .sl true ctlS (.l []) none])) (.ok (.tup [opK 2, .sl true ctlS (.l [.t [.ki 8, .ki 2, un (pro7D p d 2)]]) none])) else .bad 264
  | _ => .bad 265
def lnG (P : Program) : List (FuncId × Spec) :=
  [(9, memoS P 9 oN7K oN7R (pureS P 9 (Fone oN9K oN9R))),
   (50, memoS P 50 oA1K oA1R (memoS P 50 oB1K oB1R (memoS P 50 oA2K oA2R (pureS P 50 (Fone oB2K oB2R))))),
   (31, memoS P 31 oA3K oA3R (memoS P 31 oB3K oB3R (memoS P 31 oA4K oA4R (memoS P 31 oB4K oB4R (pureS P 31 FNoneP))))),
   (33, pureS P 33 FNoneR), (30, pureS P 30 FEnc7), (32, pureS P 32 FJoin7),
   (16, pureS P 16 FSameL), (21, pureS P 21 (Fone mAwkK mAwkR))]
-- END
-- STOPS: rej7D pro7D join7E enc7E enc7D join7D un
theorem un_len (d : D) : (un d).len = d.len := rfl
theorem un_get (d : D) (i : Nat) : (un d).get i = d.get i := rfl
theorem le_slX {kn kn' : Bool} {es : List Sh} {d e : D} {tip : Option (Nat × Nat)} (hl : d.len = e.len) (hg : ∀ i, i < d.len → ∀ Z b o, EL Z es b o (d.get i) 0 → EL Z es b o (e.get i) 0) : Le (.sl kn es d tip) (.sl kn' es e none) := fun E v hv => by
  obtain ⟨⟨h0, ad, cap, h1, h2, h3, h4, h5⟩, _⟩ := hv
  refine ⟨⟨by rw [← hl]; exact h0, ad, cap, by rw [← hl]; exact h1, by rw [← hl]; exact h2, h3, h4, fun hn => ?_⟩, trivial⟩
  obtain ⟨b, o, h6, h7⟩ := h5 (by rw [hl]; exact hn)
  exact ⟨b, o, h6, fun i hi => hg i (by rw [hl]; exact hi) _ _ _ (h7 i (by rw [hl]; exact hi))⟩
theorem el_ctl {Z : Nat → Nat → Option Value} {b o : Nat} {x y : D} (h0 : (x.cell 0).toI = (y.cell 0).toI) (h1 : (x.cell 1).toI = (y.cell 1).toI) (h2 : y.cell 2 = un (x.cell 2)) (H : EL Z ctlS b o x 0) : EL Z ctlS b o y 0 := by
  obtain ⟨⟨v0, a0, b0⟩, ⟨v1, a1, b1⟩, ⟨v2, a2, b2⟩, _⟩ := H
  refine ⟨⟨v0, a0, ?_⟩, ⟨v1, a1, ?_⟩, ⟨v2, a2, ?_⟩, trivial⟩
  · show v0 = .int .i64 (y.cell 0).toI
    rw [← h0]; exact b0
  · show v1 = .int .i64 (y.cell 1).toI
    rw [← h1]; exact b1
  · show LF Z (.sl [.int .u8]) v2 (y.cell 2)
    rw [h2]; exact b2
/-- one packet, in a row of its own -/
theorem le_ctl1 {k1 k2 : Bool} {a b a' b' : Int} {d x : D} (ha : a = a') (hb : b = b') (hx : x.len = 1) (hx0 : x.get 0 = .t [.i a, .i b, d]) :
    Le (.sl k1 ctlS x none) (.sl k2 ctlS (.l [.t [.ki a', .ki b', un d]]) none) := by
  have hl : (D.l [.t [.ki a', .ki b', un d]]).len = 1 := by simp [D.len, D.toL, D.raw, maxLen]
  refine le_slX (by rw [hx, hl]) fun i hi Z bb o H => ?_
  obtain rfl : i = 0 := by omega
  rw [hx0] at H
  rw [show (D.l [D.t [.ki a', .ki b', un d]]).get 0 = .t [.ki a', .ki b', un d] from by simp [D.get, D.toL, D.raw, maxLen]]
  exact el_ctl (x := .t [.i a, .i b, d]) (y := .t [.ki a', .ki b', un d]) ha hb rfl H
theorem nonP_soundF : SoundF Tryz.prog 31 (pureS Tryz.prog 31 FNoneP) := by
  refine pureS_row (evF_ok mixed (gam_ok cutG_ok) (lam_ok cutL_ok) 100 31) fun args K ho H => ?_
  unfold FNoneP at H
  split at H
  · rename_i x0 x1 c i d x3
    cases he : eqAL [x0, x1, x3] [cfK, tg oA4R 0, kk 3]
    · rw [he] at H; exact H.elim
    rw [he] at H
    obtain ⟨hc, H⟩ := need_holds H
    obtain ⟨hc, he0⟩ := of_decide_eq_true hc
    refine ⟨[cfK, tg oA4R 0, .agg [ai c, ai i, asl byS d], kk 3], fun E vs hv => ?_, ?_⟩
    · simp only [eqAL] at he
      obtain ⟨e1, he⟩ := cond_split he
      obtain ⟨e2, he⟩ := cond_split he
      obtain ⟨e3, _⟩ := cond_split he
      exact leL_cons (eqA_le _ _ e1) (leL_cons (eqA_le _ _ e2) (leL_cons (Le.refl _) (leL_cons (eqA_le _ _ e3) leL_nil))) E vs hv
    · rw [non_tree]
      have hr : rej7E c i d 2 = 0 := by unfold rej7E; rw [if_pos (by decide), he0]
      have fin : ∀ {r : AV}, r = (AV.tup [opK 2, .sl true ctlS (D.app (D.l []) (D.app (D.l []) (D.l [D.t [D.i (rej7C (rej7E c i d 2) 7), D.i (rej7C (rej7E c i d 2) 2), rej7D c i d 2]]))) none, .sl true [.int .i64] (D.app (D.l []) (D.l [D.t [D.ki 12]])) none]) → ∃ y, Le r y ∧ K y := by
        rintro r rfl
        refine ⟨_, le_tup (leL_cons (Le.refl _) (leL_cons (le_ctl1 (a := rej7C (rej7E c i d 2) 7) (b := rej7C (rej7E c i d 2) 2) ?_ ?_ ?_ ?_) (leL_cons (le_appN rfl) leL_nil))), H⟩
        · unfold rej7C; rw [if_pos hr]
        · unfold rej7C; rw [if_pos hr]
        · rw [appN_len, appN_len]; simp [D.len, D.toL, D.raw, maxLen]
        · rw [appN_get, appN_get]; simp [D.get, D.toL, D.raw, maxLen]
      have hne : ∀ k : Int, 1 ≤ k → k ≤ 11 → (c == k) = false := fun k h1 h2 => beq_false_of_ne (by omega)
      simp only [RT.holds, he0, hr, hne 1 (by decide) (by decide), hne 2 (by decide) (by decide), hne 3 (by decide) (by decide), hne 4 (by decide) (by decide), hne 5 (by decide) (by decide), hne 6 (by decide) (by decide), hne 7 (by decide) (by decide), hne 8 (by decide) (by decide), hne 9 (by decide) (by decide), hne 10 (by decide) (by decide), hne 11 (by decide) (by decide), bne_self_eq_false, beq_self_eq_true, Bool.false_eq_true, Bool.true_eq_false, false_implies, true_implies, true_and, and_true]
      rw [hr] at fin
      (repeat' (first | exact fin rfl | refine And.intro ?_ ?_))
  · exact H.elim
theorem nonR_soundF : SoundF Tryz.prog 33 (pureS Tryz.prog 33 FNoneR) := by
  refine pureS_row (evF_ok mixed (gam_ok cutG_ok) (lam_ok cutL_ok) 100 33) fun args K ho H => ?_
  unfold FNoneR at H
  split at H
  · rename_i x0 x1 p d
    cases he : eqAL [x0, x1] [cfK, tg oA4R 0]
    · rw [he] at H; exact H.elim
    rw [he] at H
    refine ⟨[cfK, tg oA4R 0, .agg [ai p, asl byS d]], fun E vs hv => ?_, ?_⟩
    · simp only [eqAL] at he
      obtain ⟨e1, he⟩ := cond_split he
      obtain ⟨e2, _⟩ := cond_split he
      exact leL_cons (eqA_le _ _ e1) (leL_cons (eqA_le _ _ e2) (leL_cons (Le.refl _) leL_nil)) E vs hv
    · rw [rjt_tree]
      have hp : pro7E p d 2 = join7E p d := by unfold pro7E; rw [if_pos (by decide)]
      have b1 : (join7E p d != 0) = true → ∃ y, Le (AV.tup [opK 1, .sc true (.slice none 0 0)]) y ∧ K y := fun h => ⟨_, le_two (Le.refl _) (le_nil nil_len), H.1 h⟩
      have b2 : (join7E p d != 0) = false → ∃ y, Le (AV.tup [opK 2, .sl true ctlS (D.app (D.l []) (D.l [D.t [D.i (rej7C (pro7E p d 2) 8), D.i (rej7C (pro7E p d 2) 2), pro7D p d 2]])) none]) y ∧ K y := fun h => by
        have h0 : pro7E p d 2 = 0 := by rw [hp]; simpa using h
        refine ⟨_, le_two (Le.refl _) (le_ctl1 (a := rej7C (pro7E p d 2) 8) (b := rej7C (pro7E p d 2) 2) ?_ ?_ ?_ ?_), H.2 h⟩
        · unfold rej7C; rw [if_pos h0]
        · unfold rej7C; rw [if_pos h0]
        · rw [appN_len]; simp [D.len, D.toL, D.raw, maxLen]
        · rw [appN_get]; simp [D.get, D.toL, D.raw, maxLen]
      rw [hp]
      rw [hp] at b2
      exact ⟨⟨⟨b1, b2⟩, ⟨b1, b2⟩⟩, ⟨b1, b2⟩⟩
  · exact H.elim
theorem lnG_ok : GamL Tryz.prog (lnG Tryz.prog) := by
  have ev : ∀ f, SoundF Tryz.prog f (evF Tryz.prog (gam (opG Tryz.prog)) (lam []) 100 f) := fun f => evF_ok mixed (gam_ok opG_ok) (lam_ok (l := []) trivial) 100 f
  exact ⟨memo_ok (memo_one (ev _) oN9) (ev _) oN7, memo_ok (memo_ok (memo_ok (memo_one (ev _) oB2) (ev _) oA2) (ev _) oB1) (ev _) oA1,
    memo_ok (memo_ok (memo_ok (memo_ok nonP_soundF (ev _) oB4) (ev _) oA4) (ev _) oB3) (ev _) oA3, nonR_soundF, renc7_soundF, rjoin7_soundF, rlsame_soundF, awk_soundF, trivial⟩
theorem none_tree (code ic ii : Int) (dd : D) (p : Int) (dp : D) : treeF (evF Tryz.prog (gam (lnG Tryz.prog)) (lam ([])) 100 6) [.sc false (.int .u8 code), .agg [ai ic, ai ii, asl byS dd], .agg [ai p, asl byS dp]] =
    RT.br
      (decide
        ((0 : Int) ≤ 0 ∧
          0 ≤ imin (↑(D.len dd) : Int) 1600 ∧
            imin (↑(D.len dd) : Int) 1600 ≤ (↑(D.len dd) : Int) ∧ (↑(D.len dd) : Int) ≤ (↑(D.len dd) : Int)))
      (RT.br
        (decide
          ((0 : Int) ≤ 0 ∧
            0 ≤ imin (↑(D.len dp) : Int) 1600 ∧
              imin (↑(D.len dp) : Int) 1600 ≤ (↑(D.len dp) : Int) ∧ (↑(D.len dp) : Int) ≤ (↑(D.len dp) : Int)))
        (RT.br (IntKind.wrap IntKind.i64 code == 0)
          (RT.br (enc7E (IntKind.wrap IntKind.i64 code) ii (D.sub dd 0 (Int.toNat (imin (↑(D.len dd) : Int) 1600))) == 0)
            (RT.all
              (RT.all
                (RT.br
                  (decide
                    ((IntKind.wrap IntKind.i64 code < 1 ∨ 11 < IntKind.wrap IntKind.i64 code) ∧
                      enc7E (IntKind.wrap IntKind.i64 code) ii (D.sub dd 0 (Int.toNat (imin (↑(D.len dd) : Int) 1600))) =
                        0))
                  (RT.br
                    (decide
                      ((0 : Int) ≤ 0 ∧
                        0 ≤
                            imin
                              (↑(D.len
                                    (enc7D (IntKind.wrap IntKind.i64 code) ii
                                      (D.sub dd 0 (Int.toNat (imin (↑(D.len dd) : Int) 1600))))) :
                                Int)
                              1488 ∧
                          imin
                                (↑(D.len
                                      (enc7D (IntKind.wrap IntKind.i64 code) ii
                                        (D.sub dd 0 (Int.toNat (imin (↑(D.len dd) : Int) 1600))))) :
                                  Int)
                                1488 ≤
                              (↑(D.len
                                    (enc7D (IntKind.wrap IntKind.i64 code) ii
                                      (D.sub dd 0 (Int.toNat (imin (↑(D.len dd) : Int) 1600))))) :
                                Int) ∧
                            (↑(D.len
                                    (enc7D (IntKind.wrap IntKind.i64 code) ii
                                      (D.sub dd 0 (Int.toNat (imin (↑(D.len dd) : Int) 1600))))) :
                                Int) ≤
                              (↑(D.len
                                    (enc7D (IntKind.wrap IntKind.i64 code) ii
                                      (D.sub dd 0 (Int.toNat (imin (↑(D.len dd) : Int) 1600))))) :
                                Int)))
                    (RT.br
                      (!ByteArray.toList
                            (D.str
                              (D.cell
                                (D.get
                                  (D.l
                                    [D.t
                                        [D.ki 7, D.ki 2,
                                          un
                                            (rej7D (IntKind.wrap IntKind.i64 code) ii
                                              (D.sub dd (Int.toNat 0) (Int.toNat (imin (↑(D.len dd) : Int) 1600))) 2)]])
                                  (Int.toNat 0))
                                (Nat.succ 1))) ==
                          ByteArray.toList
                            (D.str
                              (D.sub
                                (enc7D (IntKind.wrap IntKind.i64 code) ii
                                  (D.sub dd (Int.toNat 0) (Int.toNat (imin (↑(D.len dd) : Int) 1600))))
                                (Int.toNat 0)
                                (Int.toNat
                                  (imin
                                    (↑(D.len
                                          (enc7D (IntKind.wrap IntKind.i64 code) ii
                                            (D.sub dd (Int.toNat 0) (Int.toNat (imin (↑(D.len dd) : Int) 1600))))) :
                                      Int)
                                    1488)))))
                      (RT.ok (AV.sc true (Value.bool false)))
                      (RT.all
                        (RT.all
                          (RT.br (join7E p (D.sub dp 0 (Int.toNat (imin (↑(D.len dp) : Int) 1600))) != 0)
                            (RT.br (join7E p (D.sub dp 0 (Int.toNat (imin (↑(D.len dp) : Int) 1600))) != 0)
                              (RT.ok (AV.sc true (Value.bool true))) (RT.ok (AV.sc true (Value.bool false))))
                            (RT.br (join7E p (D.sub dp 0 (Int.toNat (imin (↑(D.len dp) : Int) 1600))) != 0)
                              (RT.ok (AV.sc true (Value.bool false)))
                              (RT.br
                                (decide
                                  ((0 : Int) ≤ 0 ∧
                                    0 ≤
                                        imin
                                          (↑(D.len (join7D p (D.sub dp 0 (Int.toNat (imin (↑(D.len dp) : Int) 1600))))) :
                                            Int)
                                          1488 ∧
                                      imin
                                            (↑(D.len (join7D p (D.sub dp 0 (Int.toNat (imin (↑(D.len dp) : Int) 1600))))) :
                                              Int)
                                            1488 ≤
                                          (↑(D.len (join7D p (D.sub dp 0 (Int.toNat (imin (↑(D.len dp) : Int) 1600))))) :
                                            Int) ∧
                                        (↑(D.len (join7D p (D.sub dp 0 (Int.toNat (imin (↑(D.len dp) : Int) 1600))))) :
                                            Int) ≤
                                          (↑(D.len (join7D p (D.sub dp 0 (Int.toNat (imin (↑(D.len dp) : Int) 1600))))) :
                                            Int)))
                                (RT.br
                                  (!ByteArray.toList
                                        (D.str
                                          (D.cell
                                            (D.get
                                              (D.l
                                                [D.t
                                                    [D.ki 8, D.ki 2,
                                                      un
                                                        (pro7D p
                                                          (D.sub dp (Int.toNat 0)
                                                            (Int.toNat (imin (↑(D.len dp) : Int) 1600)))
                                                          2)]])
                                              (Int.toNat 0))
                                            (Nat.succ 1))) ==
                                      ByteArray.toList
                                        (D.str
                                          (D.sub
                                            (join7D p (D.sub dp (Int.toNat 0) (Int.toNat (imin (↑(D.len dp) : Int) 1600))))
                                            (Int.toNat 0)
                                            (Int.toNat
                                              (imin
                                                (↑(D.len
                                                      (join7D p
                                                        (D.sub dp (Int.toNat 0)
                                                          (Int.toNat (imin (↑(D.len dp) : Int) 1600))))) :
                                                  Int)
                                                1488)))))
                                  (RT.ok (AV.sc true (Value.bool false))) (RT.ok (AV.sc true (Value.bool true))))
                                (RT.bad 37))))
                          (RT.br (join7E p (D.sub dp 0 (Int.toNat (imin (↑(D.len dp) : Int) 1600))) != 0)
                            (RT.br (join7E p (D.sub dp 0 (Int.toNat (imin (↑(D.len dp) : Int) 1600))) != 0)
                              (RT.ok (AV.sc true (Value.bool true))) (RT.ok (AV.sc true (Value.bool false))))
                            (RT.br (join7E p (D.sub dp 0 (Int.toNat (imin (↑(D.len dp) : Int) 1600))) != 0)
                              (RT.ok (AV.sc true (Value.bool false)))
                              (RT.br
                                (decide
                                  ((0 : Int) ≤ 0 ∧
                                    0 ≤
                                        imin
                                          (↑(D.len (join7D p (D.sub dp 0 (Int.toNat (imin (↑(D.len dp) : Int) 1600))))) :
                                            Int)
                                          1488 ∧
                                      imin
                                            (↑(D.len (join7D p (D.sub dp 0 (Int.toNat (imin (↑(D.len dp) : Int) 1600))))) :
                                              Int)
                                            1488 ≤
                                          (↑(D.len (join7D p (D.sub dp 0 (Int.toNat (imin (↑(D.len dp) : Int) 1600))))) :
                                            Int) ∧
                                        (↑(D.len (join7D p (D.sub dp 0 (Int.toNat (imin (↑(D.len dp) : Int) 1600))))) :
                                            Int) ≤
                                          (↑(D.len (join7D p (D.sub dp 0 (Int.toNat (imin (↑(D.len dp) : Int) 1600))))) :
                                            Int)))
                                (RT.br
                                  (!ByteArray.toList
                                        (D.str
                                          (D.cell
                                            (D.get
                                              (D.l
                                                [D.t
                                                    [D.ki 8, D.ki 2,
                                                      un
                                                        (pro7D p
                                                          (D.sub dp (Int.toNat 0)
                                                            (Int.toNat (imin (↑(D.len dp) : Int) 1600)))
                                                          2)]])
                                              (Int.toNat 0))
                                            (Nat.succ 1))) ==
                                      ByteArray.toList
                                        (D.str
                                          (D.sub
                                            (join7D p (D.sub dp (Int.toNat 0) (Int.toNat (imin (↑(D.len dp) : Int) 1600))))
                                            (Int.toNat 0)
                                            (Int.toNat
                                              (imin
                                                (↑(D.len
                                                      (join7D p
                                                        (D.sub dp (Int.toNat 0)
                                                          (Int.toNat (imin (↑(D.len dp) : Int) 1600))))) :
                                                  Int)
                                                1488)))))
                                  (RT.ok (AV.sc true (Value.bool false))) (RT.ok (AV.sc true (Value.bool true))))
                                (RT.bad 37)))))
                        (RT.br (join7E p (D.sub dp 0 (Int.toNat (imin (↑(D.len dp) : Int) 1600))) != 0)
                          (RT.br (join7E p (D.sub dp 0 (Int.toNat (imin (↑(D.len dp) : Int) 1600))) != 0)
                            (RT.ok (AV.sc true (Value.bool true))) (RT.ok (AV.sc true (Value.bool false))))
                          (RT.br (join7E p (D.sub dp 0 (Int.toNat (imin (↑(D.len dp) : Int) 1600))) != 0)
                            (RT.ok (AV.sc true (Value.bool false)))
                            (RT.br
                              (decide
                                ((0 : Int) ≤ 0 ∧
                                  0 ≤
                                      imin
                                        (↑(D.len (join7D p (D.sub dp 0 (Int.toNat (imin (↑(D.len dp) : Int) 1600))))) : Int)
                                        1488 ∧
                                    imin
                                          (↑(D.len (join7D p (D.sub dp 0 (Int.toNat (imin (↑(D.len dp) : Int) 1600))))) :
                                            Int)
                                          1488 ≤
                                        (↑(D.len (join7D p (D.sub dp 0 (Int.toNat (imin (↑(D.len dp) : Int) 1600))))) :
                                          Int) ∧
                                      (↑(D.len (join7D p (D.sub dp 0 (Int.toNat (imin (↑(D.len dp) : Int) 1600))))) : Int) ≤
                                        (↑(D.len (join7D p (D.sub dp 0 (Int.toNat (imin (↑(D.len dp) : Int) 1600))))) :
                                          Int)))
                              (RT.br
                                (!ByteArray.toList
                                      (D.str
                                        (D.cell
                                          (D.get
                                            (D.l
                                              [D.t
                                                  [D.ki 8, D.ki 2,
                                                    un
                                                      (pro7D p
                                                        (D.sub dp (Int.toNat 0) (Int.toNat (imin (↑(D.len dp) : Int) 1600)))
                                                        2)]])
                                            (Int.toNat 0))
                                          (Nat.succ 1))) ==
                                    ByteArray.toList
                                      (D.str
                                        (D.sub
                                          (join7D p (D.sub dp (Int.toNat 0) (Int.toNat (imin (↑(D.len dp) : Int) 1600))))
                                          (Int.toNat 0)
                                          (Int.toNat
                                            (imin
                                              (↑(D.len
                                                    (join7D p
                                                      (D.sub dp (Int.toNat 0)
                                                        (Int.toNat (imin (↑(D.len dp) : Int) 1600))))) :
                                                Int)
                                              1488)))))
                                (RT.ok (AV.sc true (Value.bool false))) (RT.ok (AV.sc true (Value.bool true))))
                              (RT.bad 37))))))
                    (RT.bad 37))
                  (RT.bad 261))
                (RT.br
                  (decide
                    ((IntKind.wrap IntKind.i64 code < 1 ∨ 11 < IntKind.wrap IntKind.i64 code) ∧
                      enc7E (IntKind.wrap IntKind.i64 code) ii (D.sub dd 0 (Int.toNat (imin (↑(D.len dd) : Int) 1600))) =
                        0))
                  (RT.br
                    (decide
                      ((0 : Int) ≤ 0 ∧
                        0 ≤
                            imin
                              (↑(D.len
                                    (enc7D (IntKind.wrap IntKind.i64 code) ii
                                      (D.sub dd 0 (Int.toNat (imin (↑(D.len dd) : Int) 1600))))) :
                                Int)
                              1488 ∧
                          imin
                                (↑(D.len
                                      (enc7D (IntKind.wrap IntKind.i64 code) ii
                                        (D.sub dd 0 (Int.toNat (imin (↑(D.len dd) : Int) 1600))))) :
                                  Int)
                                1488 ≤
                              (↑(D.len
                                    (enc7D (IntKind.wrap IntKind.i64 code) ii
                                      (D.sub dd 0 (Int.toNat (imin (↑(D.len dd) : Int) 1600))))) :
                                Int) ∧
                            (↑(D.len
                                    (enc7D (IntKind.wrap IntKind.i64 code) ii
                                      (D.sub dd 0 (Int.toNat (imin (↑(D.len dd) : Int) 1600))))) :
                                Int) ≤
                              (↑(D.len
                                    (enc7D (IntKind.wrap IntKind.i64 code) ii
                                      (D.sub dd 0 (Int.toNat (imin (↑(D.len dd) : Int) 1600))))) :
                                Int)))
                    (RT.br
                      (!ByteArray.toList
                            (D.str
                              (D.cell
                                (D.get
                                  (D.l
                                    [D.t
                                        [D.ki 7, D.ki 2,
                                          un
                                            (rej7D (IntKind.wrap IntKind.i64 code) ii
                                              (D.sub dd (Int.toNat 0) (Int.toNat (imin (↑(D.len dd) : Int) 1600))) 2)]])
                                  (Int.toNat 0))
                                (Nat.succ 1))) ==
                          ByteArray.toList
                            (D.str
                              (D.sub
                                (enc7D (IntKind.wrap IntKind.i64 code) ii
                                  (D.sub dd (Int.toNat 0) (Int.toNat (imin (↑(D.len dd) : Int) 1600))))
                                (Int.toNat 0)
                                (Int.toNat
                                  (imin
                                    (↑(D.len
                                          (enc7D (IntKind.wrap IntKind.i64 code) ii
                                            (D.sub dd (Int.toNat 0) (Int.toNat (imin (↑(D.len dd) : Int) 1600))))) :
                                      Int)
                                    1488)))))
                      (RT.ok (AV.sc true (Value.bool false)))
                      (RT.all
                        (RT.all
                          (RT.br (join7E p (D.sub dp 0 (Int.toNat (imin (↑(D.len dp) : Int) 1600))) != 0)
                            (RT.br (join7E p (D.sub dp 0 (Int.toNat (imin (↑(D.len dp) : Int) 1600))) != 0)
                              (RT.ok (AV.sc true (Value.bool true))) (RT.ok (AV.sc true (Value.bool false))))
                            (RT.br (join7E p (D.sub dp 0 (Int.toNat (imin (↑(D.len dp) : Int) 1600))) != 0)
                              (RT.ok (AV.sc true (Value.bool false)))
                              (RT.br
                                (decide
                                  ((0 : Int) ≤ 0 ∧
                                    0 ≤
                                        imin
                                          (↑(D.len (join7D p (D.sub dp 0 (Int.toNat (imin (↑(D.len dp) : Int) 1600))))) :
                                            Int)
                                          1488 ∧
                                      imin
                                            (↑(D.len (join7D p (D.sub dp 0 (Int.toNat (imin (↑(D.len dp) : Int) 1600))))) :
                                              Int)
                                            1488 ≤
                                          (↑(D.len (join7D p (D.sub dp 0 (Int.toNat (imin (↑(D.len dp) : Int) 1600))))) :
                                            Int) ∧
                                        (↑(D.len (join7D p (D.sub dp 0 (Int.toNat (imin (↑(D.len dp) : Int) 1600))))) :
                                            Int) ≤
                                          (↑(D.len (join7D p (D.sub dp 0 (Int.toNat (imin (↑(D.len dp) : Int) 1600))))) :
                                            Int)))
                                (RT.br
                                  (!ByteArray.toList
                                        (D.str
                                          (D.cell
                                            (D.get
                                              (D.l
                                                [D.t
                                                    [D.ki 8, D.ki 2,
                                                      un
                                                        (pro7D p
                                                          (D.sub dp (Int.toNat 0)
                                                            (Int.toNat (imin (↑(D.len dp) : Int) 1600)))
                                                          2)]])
                                              (Int.toNat 0))
                                            (Nat.succ 1))) ==
                                      ByteArray.toList
                                        (D.str
                                          (D.sub
                                            (join7D p (D.sub dp (Int.toNat 0) (Int.toNat (imin (↑(D.len dp) : Int) 1600))))
                                            (Int.toNat 0)
                                            (Int.toNat
                                              (imin
                                                (↑(D.len
                                                      (join7D p
                                                        (D.sub dp (Int.toNat 0)
                                                          (Int.toNat (imin (↑(D.len dp) : Int) 1600))))) :
                                                  Int)
                                                1488)))))
                                  (RT.ok (AV.sc true (Value.bool false))) (RT.ok (AV.sc true (Value.bool true))))
                                (RT.bad 37))))
                          (RT.br (join7E p (D.sub dp 0 (Int.toNat (imin (↑(D.len dp) : Int) 1600))) != 0)
                            (RT.br (join7E p (D.sub dp 0 (Int.toNat (imin (↑(D.len dp) : Int) 1600))) != 0)
                              (RT.ok (AV.sc true (Value.bool true))) (RT.ok (AV.sc true (Value.bool false))))
                            (RT.br (join7E p (D.sub dp 0 (Int.toNat (imin (↑(D.len dp) : Int) 1600))) != 0)
                              (RT.ok (AV.sc true (Value.bool false)))
                              (RT.br
                                (decide
                                  ((0 : Int) ≤ 0 ∧
                                    0 ≤
                                        imin
                                          (↑(D.len (join7D p (D.sub dp 0 (Int.toNat (imin (↑(D.len dp) : Int) 1600))))) :
                                            Int)
                                          1488 ∧
                                      imin
                                            (↑(D.len (join7D p (D.sub dp 0 (Int.toNat (imin (↑(D.len dp) : Int) 1600))))) :
                                              Int)
                                            1488 ≤
                                          (↑(D.len (join7D p (D.sub dp 0 (Int.toNat (imin (↑(D.len dp) : Int) 1600))))) :
                                            Int) ∧
                                        (↑(D.len (join7D p (D.sub dp 0 (Int.toNat (imin (↑(D.len dp) : Int) 1600))))) :
                                            Int) ≤
                                          (↑(D.len (join7D p (D.sub dp 0 (Int.toNat (imin (↑(D.len dp) : Int) 1600))))) :
                                            Int)))
                                (RT.br
                                  (!ByteArray.toList
                                        (D.str
                                          (D.cell
                                            (D.get
                                              (D.l
                                                [D.t
                                                    [D.ki 8, D.ki 2,
                                                      un
                                                        (pro7D p
                                                          (D.sub dp (Int.toNat 0)
                                                            (Int.toNat (imin (↑(D.len dp) : Int) 1600)))
                                                          2)]])
                                              (Int.toNat 0))
                                            (Nat.succ 1))) ==
                                      ByteArray.toList
                                        (D.str
                                          (D.sub
                                            (join7D p (D.sub dp (Int.toNat 0) (Int.toNat (imin (↑(D.len dp) : Int) 1600))))
                                            (Int.toNat 0)
                                            (Int.toNat
                                              (imin
                                                (↑(D.len
                                                      (join7D p
                                                        (D.sub dp (Int.toNat 0)
                                                          (Int.toNat (imin (↑(D.len dp) : Int) 1600))))) :
                                                  Int)
                                                1488)))))
                                  (RT.ok (AV.sc true (Value.bool false))) (RT.ok (AV.sc true (Value.bool true))))
                                (RT.bad 37)))))
                        (RT.br (join7E p (D.sub dp 0 (Int.toNat (imin (↑(D.len dp) : Int) 1600))) != 0)
                          (RT.br (join7E p (D.sub dp 0 (Int.toNat (imin (↑(D.len dp) : Int) 1600))) != 0)
                            (RT.ok (AV.sc true (Value.bool true))) (RT.ok (AV.sc true (Value.bool false))))
                          (RT.br (join7E p (D.sub dp 0 (Int.toNat (imin (↑(D.len dp) : Int) 1600))) != 0)
                            (RT.ok (AV.sc true (Value.bool false)))
                            (RT.br
                              (decide
                                ((0 : Int) ≤ 0 ∧
                                  0 ≤
                                      imin
                                        (↑(D.len (join7D p (D.sub dp 0 (Int.toNat (imin (↑(D.len dp) : Int) 1600))))) : Int)
                                        1488 ∧
                                    imin
                                          (↑(D.len (join7D p (D.sub dp 0 (Int.toNat (imin (↑(D.len dp) : Int) 1600))))) :
                                            Int)
                                          1488 ≤
                                        (↑(D.len (join7D p (D.sub dp 0 (Int.toNat (imin (↑(D.len dp) : Int) 1600))))) :
                                          Int) ∧
                                      (↑(D.len (join7D p (D.sub dp 0 (Int.toNat (imin (↑(D.len dp) : Int) 1600))))) : Int) ≤
                                        (↑(D.len (join7D p (D.sub dp 0 (Int.toNat (imin (↑(D.len dp) : Int) 1600))))) :
                                          Int)))
                              (RT.br
                                (!ByteArray.toList
                                      (D.str
                                        (D.cell
                                          (D.get
                                            (D.l
                                              [D.t
                                                  [D.ki 8, D.ki 2,
                                                    un
                                                      (pro7D p
                                                        (D.sub dp (Int.toNat 0) (Int.toNat (imin (↑(D.len dp) : Int) 1600)))
                                                        2)]])
                                            (Int.toNat 0))
                                          (Nat.succ 1))) ==
                                    ByteArray.toList
                                      (D.str
                                        (D.sub
                                          (join7D p (D.sub dp (Int.toNat 0) (Int.toNat (imin (↑(D.len dp) : Int) 1600))))
                                          (Int.toNat 0)
                                          (Int.toNat
                                            (imin
                                              (↑(D.len
                                                    (join7D p
                                                      (D.sub dp (Int.toNat 0)
                                                        (Int.toNat (imin (↑(D.len dp) : Int) 1600))))) :
                                                Int)
                                              1488)))))
                                (RT.ok (AV.sc true (Value.bool false))) (RT.ok (AV.sc true (Value.bool true))))
                              (RT.bad 37))))))
                    (RT.bad 37))
                  (RT.bad 261)))
              (RT.br
                (decide
                  ((IntKind.wrap IntKind.i64 code < 1 ∨ 11 < IntKind.wrap IntKind.i64 code) ∧
                    enc7E (IntKind.wrap IntKind.i64 code) ii (D.sub dd 0 (Int.toNat (imin (↑(D.len dd) : Int) 1600))) = 0))
                (RT.br
                  (decide
                    ((0 : Int) ≤ 0 ∧
                      0 ≤
                          imin
                            (↑(D.len
                                  (enc7D (IntKind.wrap IntKind.i64 code) ii
                                    (D.sub dd 0 (Int.toNat (imin (↑(D.len dd) : Int) 1600))))) :
                              Int)
                            1488 ∧
                        imin
                              (↑(D.len
                                    (enc7D (IntKind.wrap IntKind.i64 code) ii
                                      (D.sub dd 0 (Int.toNat (imin (↑(D.len dd) : Int) 1600))))) :
                                Int)
                              1488 ≤
                            (↑(D.len
                                  (enc7D (IntKind.wrap IntKind.i64 code) ii
                                    (D.sub dd 0 (Int.toNat (imin (↑(D.len dd) : Int) 1600))))) :
                              Int) ∧
                          (↑(D.len
                                  (enc7D (IntKind.wrap IntKind.i64 code) ii
                                    (D.sub dd 0 (Int.toNat (imin (↑(D.len dd) : Int) 1600))))) :
                              Int) ≤
                            (↑(D.len
                                  (enc7D (IntKind.wrap IntKind.i64 code) ii
                                    (D.sub dd 0 (Int.toNat (imin (↑(D.len dd) : Int) 1600))))) :
                              Int)))
                  (RT.br
                    (!ByteArray.toList
                          (D.str
                            (D.cell
                              (D.get
                                (D.l
                                  [D.t
                                      [D.ki 7, D.ki 2,
                                        un
                                          (rej7D (IntKind.wrap IntKind.i64 code) ii
                                            (D.sub dd (Int.toNat 0) (Int.toNat (imin (↑(D.len dd) : Int) 1600))) 2)]])
                                (Int.toNat 0))
                              (Nat.succ 1))) ==
                        ByteArray.toList
                          (D.str
                            (D.sub
                              (enc7D (IntKind.wrap IntKind.i64 code) ii
                                (D.sub dd (Int.toNat 0) (Int.toNat (imin (↑(D.len dd) : Int) 1600))))
                              (Int.toNat 0)
                              (Int.toNat
                                (imin
                                  (↑(D.len
                                        (enc7D (IntKind.wrap IntKind.i64 code) ii
                                          (D.sub dd (Int.toNat 0) (Int.toNat (imin (↑(D.len dd) : Int) 1600))))) :
                                    Int)
                                  1488)))))
                    (RT.ok (AV.sc true (Value.bool false)))
                    (RT.all
                      (RT.all
                        (RT.br (join7E p (D.sub dp 0 (Int.toNat (imin (↑(D.len dp) : Int) 1600))) != 0)
                          (RT.br (join7E p (D.sub dp 0 (Int.toNat (imin (↑(D.len dp) : Int) 1600))) != 0)
                            (RT.ok (AV.sc true (Value.bool true))) (RT.ok (AV.sc true (Value.bool false))))
                          (RT.br (join7E p (D.sub dp 0 (Int.toNat (imin (↑(D.len dp) : Int) 1600))) != 0)
                            (RT.ok (AV.sc true (Value.bool false)))
                            (RT.br
                              (decide
                                ((0 : Int) ≤ 0 ∧
                                  0 ≤
                                      imin
                                        (↑(D.len (join7D p (D.sub dp 0 (Int.toNat (imin (↑(D.len dp) : Int) 1600))))) : Int)
                                        1488 ∧
                                    imin
                                          (↑(D.len (join7D p (D.sub dp 0 (Int.toNat (imin (↑(D.len dp) : Int) 1600))))) :
                                            Int)
                                          1488 ≤
                                        (↑(D.len (join7D p (D.sub dp 0 (Int.toNat (imin (↑(D.len dp) : Int) 1600))))) :
                                          Int) ∧
                                      (↑(D.len (join7D p (D.sub dp 0 (Int.toNat (imin (↑(D.len dp) : Int) 1600))))) : Int) ≤
                                        (↑(D.len (join7D p (D.sub dp 0 (Int.toNat (imin (↑(D.len dp) : Int) 1600))))) :
                                          Int)))
                              (RT.br
                                (!ByteArray.toList
                                      (D.str
                                        (D.cell
                                          (D.get
                                            (D.l
                                              [D.t
                                                  [D.ki 8, D.ki 2,
                                                    un
                                                      (pro7D p
                                                        (D.sub dp (Int.toNat 0) (Int.toNat (imin (↑(D.len dp) : Int) 1600)))
                                                        2)]])
                                            (Int.toNat 0))
                                          (Nat.succ 1))) ==
                                    ByteArray.toList
                                      (D.str
                                        (D.sub
                                          (join7D p (D.sub dp (Int.toNat 0) (Int.toNat (imin (↑(D.len dp) : Int) 1600))))
                                          (Int.toNat 0)
                                          (Int.toNat
                                            (imin
                                              (↑(D.len
                                                    (join7D p
                                                      (D.sub dp (Int.toNat 0)
                                                        (Int.toNat (imin (↑(D.len dp) : Int) 1600))))) :
                                                Int)
                                              1488)))))
                                (RT.ok (AV.sc true (Value.bool false))) (RT.ok (AV.sc true (Value.bool true))))
                              (RT.bad 37))))
                        (RT.br (join7E p (D.sub dp 0 (Int.toNat (imin (↑(D.len dp) : Int) 1600))) != 0)
                          (RT.br (join7E p (D.sub dp 0 (Int.toNat (imin (↑(D.len dp) : Int) 1600))) != 0)
                            (RT.ok (AV.sc true (Value.bool true))) (RT.ok (AV.sc true (Value.bool false))))
                          (RT.br (join7E p (D.sub dp 0 (Int.toNat (imin (↑(D.len dp) : Int) 1600))) != 0)
                            (RT.ok (AV.sc true (Value.bool false)))
                            (RT.br
                              (decide
                                ((0 : Int) ≤ 0 ∧
                                  0 ≤
                                      imin
                                        (↑(D.len (join7D p (D.sub dp 0 (Int.toNat (imin (↑(D.len dp) : Int) 1600))))) : Int)
                                        1488 ∧
                                    imin
                                          (↑(D.len (join7D p (D.sub dp 0 (Int.toNat (imin (↑(D.len dp) : Int) 1600))))) :
                                            Int)
                                          1488 ≤
                                        (↑(D.len (join7D p (D.sub dp 0 (Int.toNat (imin (↑(D.len dp) : Int) 1600))))) :
                                          Int) ∧
                                      (↑(D.len (join7D p (D.sub dp 0 (Int.toNat (imin (↑(D.len dp) : Int) 1600))))) : Int) ≤
                                        (↑(D.len (join7D p (D.sub dp 0 (Int.toNat (imin (↑(D.len dp) : Int) 1600))))) :
                                          Int)))
                              (RT.br
                                (!ByteArray.toList
                                      (D.str
                                        (D.cell
                                          (D.get
                                            (D.l
                                              [D.t
                                                  [D.ki 8, D.ki 2,
                                                    un
                                                      (pro7D p
                                                        (D.sub dp (Int.toNat 0) (Int.toNat (imin (↑(D.len dp) : Int) 1600)))
                                                        2)]])
                                            (Int.toNat 0))
                                          (Nat.succ 1))) ==
                                    ByteArray.toList
                                      (D.str
                                        (D.sub
                                          (join7D p (D.sub dp (Int.toNat 0) (Int.toNat (imin (↑(D.len dp) : Int) 1600))))
                                          (Int.toNat 0)
                                          (Int.toNat
                                            (imin
                                              (↑(D.len
                                                    (join7D p
                                                      (D.sub dp (Int.toNat 0)
                                                        (Int.toNat (imin (↑(D.len dp) : Int) 1600))))) :
                                                Int)
                                              1488)))))
                                (RT.ok (AV.sc true (Value.bool false))) (RT.ok (AV.sc true (Value.bool true))))
                              (RT.bad 37)))))
                      (RT.br (join7E p (D.sub dp 0 (Int.toNat (imin (↑(D.len dp) : Int) 1600))) != 0)
                        (RT.br (join7E p (D.sub dp 0 (Int.toNat (imin (↑(D.len dp) : Int) 1600))) != 0)
                          (RT.ok (AV.sc true (Value.bool true))) (RT.ok (AV.sc true (Value.bool false))))
                        (RT.br (join7E p (D.sub dp 0 (Int.toNat (imin (↑(D.len dp) : Int) 1600))) != 0)
                          (RT.ok (AV.sc true (Value.bool false)))
                          (RT.br
                            (decide
                              ((0 : Int) ≤ 0 ∧
                                0 ≤
                                    imin
                                      (↑(D.len (join7D p (D.sub dp 0 (Int.toNat (imin (↑(D.len dp) : Int) 1600))))) : Int)
                                      1488 ∧
                                  imin (↑(D.len (join7D p (D.sub dp 0 (Int.toNat (imin (↑(D.len dp) : Int) 1600))))) : Int)
                                        1488 ≤
                                      (↑(D.len (join7D p (D.sub dp 0 (Int.toNat (imin (↑(D.len dp) : Int) 1600))))) : Int) ∧
                                    (↑(D.len (join7D p (D.sub dp 0 (Int.toNat (imin (↑(D.len dp) : Int) 1600))))) : Int) ≤
                                      (↑(D.len (join7D p (D.sub dp 0 (Int.toNat (imin (↑(D.len dp) : Int) 1600))))) : Int)))
                            (RT.br
                              (!ByteArray.toList
                                    (D.str
                                      (D.cell
                                        (D.get
                                          (D.l
                                            [D.t
                                                [D.ki 8, D.ki 2,
                                                  un
                                                    (pro7D p
                                                      (D.sub dp (Int.toNat 0) (Int.toNat (imin (↑(D.len dp) : Int) 1600)))
                                                      2)]])
                                          (Int.toNat 0))
                                        (Nat.succ 1))) ==
                                  ByteArray.toList
                                    (D.str
                                      (D.sub (join7D p (D.sub dp (Int.toNat 0) (Int.toNat (imin (↑(D.len dp) : Int) 1600))))
                                        (Int.toNat 0)
                                        (Int.toNat
                                          (imin
                                            (↑(D.len
                                                  (join7D p
                                                    (D.sub dp (Int.toNat 0) (Int.toNat (imin (↑(D.len dp) : Int) 1600))))) :
                                              Int)
                                            1488)))))
                              (RT.ok (AV.sc true (Value.bool false))) (RT.ok (AV.sc true (Value.bool true))))
                            (RT.bad 37))))))
                  (RT.bad 37))
                (RT.bad 261)))
            (RT.all
              (RT.all
                (RT.br (join7E p (D.sub dp 0 (Int.toNat (imin (↑(D.len dp) : Int) 1600))) != 0)
                  (RT.br (join7E p (D.sub dp 0 (Int.toNat (imin (↑(D.len dp) : Int) 1600))) != 0)
                    (RT.ok (AV.sc true (Value.bool true))) (RT.ok (AV.sc true (Value.bool false))))
                  (RT.br (join7E p (D.sub dp 0 (Int.toNat (imin (↑(D.len dp) : Int) 1600))) != 0)
                    (RT.ok (AV.sc true (Value.bool false)))
                    (RT.br
                      (decide
                        ((0 : Int) ≤ 0 ∧
                          0 ≤
                              imin (↑(D.len (join7D p (D.sub dp 0 (Int.toNat (imin (↑(D.len dp) : Int) 1600))))) : Int)
                                1488 ∧
                            imin (↑(D.len (join7D p (D.sub dp 0 (Int.toNat (imin (↑(D.len dp) : Int) 1600))))) : Int) 1488 ≤
                                (↑(D.len (join7D p (D.sub dp 0 (Int.toNat (imin (↑(D.len dp) : Int) 1600))))) : Int) ∧
                              (↑(D.len (join7D p (D.sub dp 0 (Int.toNat (imin (↑(D.len dp) : Int) 1600))))) : Int) ≤
                                (↑(D.len (join7D p (D.sub dp 0 (Int.toNat (imin (↑(D.len dp) : Int) 1600))))) : Int)))
                      (RT.br
                        (!ByteArray.toList
                              (D.str
                                (D.cell
                                  (D.get
                                    (D.l
                                      [D.t
                                          [D.ki 8, D.ki 2,
                                            un
                                              (pro7D p (D.sub dp (Int.toNat 0) (Int.toNat (imin (↑(D.len dp) : Int) 1600)))
                                                2)]])
                                    (Int.toNat 0))
                                  (Nat.succ 1))) ==
                            ByteArray.toList
                              (D.str
                                (D.sub (join7D p (D.sub dp (Int.toNat 0) (Int.toNat (imin (↑(D.len dp) : Int) 1600))))
                                  (Int.toNat 0)
                                  (Int.toNat
                                    (imin
                                      (↑(D.len
                                            (join7D p
                                              (D.sub dp (Int.toNat 0) (Int.toNat (imin (↑(D.len dp) : Int) 1600))))) :
                                        Int)
                                      1488)))))
                        (RT.ok (AV.sc true (Value.bool false))) (RT.ok (AV.sc true (Value.bool true))))
                      (RT.bad 37))))
                (RT.br (join7E p (D.sub dp 0 (Int.toNat (imin (↑(D.len dp) : Int) 1600))) != 0)
                  (RT.br (join7E p (D.sub dp 0 (Int.toNat (imin (↑(D.len dp) : Int) 1600))) != 0)
                    (RT.ok (AV.sc true (Value.bool true))) (RT.ok (AV.sc true (Value.bool false))))
                  (RT.br (join7E p (D.sub dp 0 (Int.toNat (imin (↑(D.len dp) : Int) 1600))) != 0)
                    (RT.ok (AV.sc true (Value.bool false)))
                    (RT.br
                      (decide
                        ((0 : Int) ≤ 0 ∧
                          0 ≤
                              imin (↑(D.len (join7D p (D.sub dp 0 (Int.toNat (imin (↑(D.len dp) : Int) 1600))))) : Int)
                                1488 ∧
                            imin (↑(D.len (join7D p (D.sub dp 0 (Int.toNat (imin (↑(D.len dp) : Int) 1600))))) : Int) 1488 ≤
                                (↑(D.len (join7D p (D.sub dp 0 (Int.toNat (imin (↑(D.len dp) : Int) 1600))))) : Int) ∧
                              (↑(D.len (join7D p (D.sub dp 0 (Int.toNat (imin (↑(D.len dp) : Int) 1600))))) : Int) ≤
                                (↑(D.len (join7D p (D.sub dp 0 (Int.toNat (imin (↑(D.len dp) : Int) 1600))))) : Int)))
                      (RT.br
                        (!ByteArray.toList
                              (D.str
                                (D.cell
                                  (D.get
                                    (D.l
                                      [D.t
                                          [D.ki 8, D.ki 2,
                                            un
                                              (pro7D p (D.sub dp (Int.toNat 0) (Int.toNat (imin (↑(D.len dp) : Int) 1600)))
                                                2)]])
                                    (Int.toNat 0))
                                  (Nat.succ 1))) ==
                            ByteArray.toList
                              (D.str
                                (D.sub (join7D p (D.sub dp (Int.toNat 0) (Int.toNat (imin (↑(D.len dp) : Int) 1600))))
                                  (Int.toNat 0)
                                  (Int.toNat
                                    (imin
                                      (↑(D.len
                                            (join7D p
                                              (D.sub dp (Int.toNat 0) (Int.toNat (imin (↑(D.len dp) : Int) 1600))))) :
                                        Int)
                                      1488)))))
                        (RT.ok (AV.sc true (Value.bool false))) (RT.ok (AV.sc true (Value.bool true))))
                      (RT.bad 37)))))
              (RT.br (join7E p (D.sub dp 0 (Int.toNat (imin (↑(D.len dp) : Int) 1600))) != 0)
                (RT.br (join7E p (D.sub dp 0 (Int.toNat (imin (↑(D.len dp) : Int) 1600))) != 0)
                  (RT.ok (AV.sc true (Value.bool true))) (RT.ok (AV.sc true (Value.bool false))))
                (RT.br (join7E p (D.sub dp 0 (Int.toNat (imin (↑(D.len dp) : Int) 1600))) != 0)
                  (RT.ok (AV.sc true (Value.bool false)))
                  (RT.br
                    (decide
                      ((0 : Int) ≤ 0 ∧
                        0 ≤ imin (↑(D.len (join7D p (D.sub dp 0 (Int.toNat (imin (↑(D.len dp) : Int) 1600))))) : Int) 1488 ∧
                          imin (↑(D.len (join7D p (D.sub dp 0 (Int.toNat (imin (↑(D.len dp) : Int) 1600))))) : Int) 1488 ≤
                              (↑(D.len (join7D p (D.sub dp 0 (Int.toNat (imin (↑(D.len dp) : Int) 1600))))) : Int) ∧
                            (↑(D.len (join7D p (D.sub dp 0 (Int.toNat (imin (↑(D.len dp) : Int) 1600))))) : Int) ≤
                              (↑(D.len (join7D p (D.sub dp 0 (Int.toNat (imin (↑(D.len dp) : Int) 1600))))) : Int)))
                    (RT.br
                      (!ByteArray.toList
                            (D.str
                              (D.cell
                                (D.get
                                  (D.l
                                    [D.t
                                        [D.ki 8, D.ki 2,
                                          un
                                            (pro7D p (D.sub dp (Int.toNat 0) (Int.toNat (imin (↑(D.len dp) : Int) 1600)))
                                              2)]])
                                  (Int.toNat 0))
                                (Nat.succ 1))) ==
                          ByteArray.toList
                            (D.str
                              (D.sub (join7D p (D.sub dp (Int.toNat 0) (Int.toNat (imin (↑(D.len dp) : Int) 1600))))
                                (Int.toNat 0)
                                (Int.toNat
                                  (imin
                                    (↑(D.len
                                          (join7D p (D.sub dp (Int.toNat 0) (Int.toNat (imin (↑(D.len dp) : Int) 1600))))) :
                                      Int)
                                    1488)))))
                      (RT.ok (AV.sc true (Value.bool false))) (RT.ok (AV.sc true (Value.bool true))))
                    (RT.bad 37))))))
          (RT.br (decide (11 < IntKind.wrap IntKind.i64 code))
            (RT.br (enc7E (IntKind.wrap IntKind.i64 code) ii (D.sub dd 0 (Int.toNat (imin (↑(D.len dd) : Int) 1600))) == 0)
              (RT.all
                (RT.all
                  (RT.br
                    (decide
                      ((IntKind.wrap IntKind.i64 code < 1 ∨ 11 < IntKind.wrap IntKind.i64 code) ∧
                        enc7E (IntKind.wrap IntKind.i64 code) ii (D.sub dd 0 (Int.toNat (imin (↑(D.len dd) : Int) 1600))) =
                          0))
                    (RT.br
                      (decide
                        ((0 : Int) ≤ 0 ∧
                          0 ≤
                              imin
                                (↑(D.len
                                      (enc7D (IntKind.wrap IntKind.i64 code) ii
                                        (D.sub dd 0 (Int.toNat (imin (↑(D.len dd) : Int) 1600))))) :
                                  Int)
                                1488 ∧
                            imin
                                  (↑(D.len
                                        (enc7D (IntKind.wrap IntKind.i64 code) ii
                                          (D.sub dd 0 (Int.toNat (imin (↑(D.len dd) : Int) 1600))))) :
                                    Int)
                                  1488 ≤
                                (↑(D.len
                                      (enc7D (IntKind.wrap IntKind.i64 code) ii
                                        (D.sub dd 0 (Int.toNat (imin (↑(D.len dd) : Int) 1600))))) :
                                  Int) ∧
                              (↑(D.len
                                      (enc7D (IntKind.wrap IntKind.i64 code) ii
                                        (D.sub dd 0 (Int.toNat (imin (↑(D.len dd) : Int) 1600))))) :
                                  Int) ≤
                                (↑(D.len
                                      (enc7D (IntKind.wrap IntKind.i64 code) ii
                                        (D.sub dd 0 (Int.toNat (imin (↑(D.len dd) : Int) 1600))))) :
                                  Int)))
                      (RT.br
                        (!ByteArray.toList
                              (D.str
                                (D.cell
                                  (D.get
                                    (D.l
                                      [D.t
                                          [D.ki 7, D.ki 2,
                                            un
                                              (rej7D (IntKind.wrap IntKind.i64 code) ii
                                                (D.sub dd (Int.toNat 0) (Int.toNat (imin (↑(D.len dd) : Int) 1600))) 2)]])
                                    (Int.toNat 0))
                                  (Nat.succ 1))) ==
                            ByteArray.toList
                              (D.str
                                (D.sub
                                  (enc7D (IntKind.wrap IntKind.i64 code) ii
                                    (D.sub dd (Int.toNat 0) (Int.toNat (imin (↑(D.len dd) : Int) 1600))))
                                  (Int.toNat 0)
                                  (Int.toNat
                                    (imin
                                      (↑(D.len
                                            (enc7D (IntKind.wrap IntKind.i64 code) ii
                                              (D.sub dd (Int.toNat 0) (Int.toNat (imin (↑(D.len dd) : Int) 1600))))) :
                                        Int)
                                      1488)))))
                        (RT.ok (AV.sc true (Value.bool false)))
                        (RT.all
                          (RT.all
                            (RT.br (join7E p (D.sub dp 0 (Int.toNat (imin (↑(D.len dp) : Int) 1600))) != 0)
                              (RT.br (join7E p (D.sub dp 0 (Int.toNat (imin (↑(D.len dp) : Int) 1600))) != 0)
                                (RT.ok (AV.sc true (Value.bool true))) (RT.ok (AV.sc true (Value.bool false))))
                              (RT.br (join7E p (D.sub dp 0 (Int.toNat (imin (↑(D.len dp) : Int) 1600))) != 0)
                                (RT.ok (AV.sc true (Value.bool false)))
                                (RT.br
                                  (decide
                                    ((0 : Int) ≤ 0 ∧
                                      0 ≤
                                          imin
                                            (↑(D.len (join7D p (D.sub dp 0 (Int.toNat (imin (↑(D.len dp) : Int) 1600))))) :
                                              Int)
                                            1488 ∧
                                        imin
                                              (↑(D.len
                                                    (join7D p (D.sub dp 0 (Int.toNat (imin (↑(D.len dp) : Int) 1600))))) :
                                                Int)
                                              1488 ≤
                                            (↑(D.len (join7D p (D.sub dp 0 (Int.toNat (imin (↑(D.len dp) : Int) 1600))))) :
                                              Int) ∧
                                          (↑(D.len (join7D p (D.sub dp 0 (Int.toNat (imin (↑(D.len dp) : Int) 1600))))) :
                                              Int) ≤
                                            (↑(D.len (join7D p (D.sub dp 0 (Int.toNat (imin (↑(D.len dp) : Int) 1600))))) :
                                              Int)))
                                  (RT.br
                                    (!ByteArray.toList
                                          (D.str
                                            (D.cell
                                              (D.get
                                                (D.l
                                                  [D.t
                                                      [D.ki 8, D.ki 2,
                                                        un
                                                          (pro7D p
                                                            (D.sub dp (Int.toNat 0)
                                                              (Int.toNat (imin (↑(D.len dp) : Int) 1600)))
                                                            2)]])
                                                (Int.toNat 0))
                                              (Nat.succ 1))) ==
                                        ByteArray.toList
                                          (D.str
                                            (D.sub
                                              (join7D p
                                                (D.sub dp (Int.toNat 0) (Int.toNat (imin (↑(D.len dp) : Int) 1600))))
                                              (Int.toNat 0)
                                              (Int.toNat
                                                (imin
                                                  (↑(D.len
                                                        (join7D p
                                                          (D.sub dp (Int.toNat 0)
                                                            (Int.toNat (imin (↑(D.len dp) : Int) 1600))))) :
                                                    Int)
                                                  1488)))))
                                    (RT.ok (AV.sc true (Value.bool false))) (RT.ok (AV.sc true (Value.bool true))))
                                  (RT.bad 37))))
                            (RT.br (join7E p (D.sub dp 0 (Int.toNat (imin (↑(D.len dp) : Int) 1600))) != 0)
                              (RT.br (join7E p (D.sub dp 0 (Int.toNat (imin (↑(D.len dp) : Int) 1600))) != 0)
                                (RT.ok (AV.sc true (Value.bool true))) (RT.ok (AV.sc true (Value.bool false))))
                              (RT.br (join7E p (D.sub dp 0 (Int.toNat (imin (↑(D.len dp) : Int) 1600))) != 0)
                                (RT.ok (AV.sc true (Value.bool false)))
                                (RT.br
                                  (decide
                                    ((0 : Int) ≤ 0 ∧
                                      0 ≤
                                          imin
                                            (↑(D.len (join7D p (D.sub dp 0 (Int.toNat (imin (↑(D.len dp) : Int) 1600))))) :
                                              Int)
                                            1488 ∧
                                        imin
                                              (↑(D.len
                                                    (join7D p (D.sub dp 0 (Int.toNat (imin (↑(D.len dp) : Int) 1600))))) :
                                                Int)
                                              1488 ≤
                                            (↑(D.len (join7D p (D.sub dp 0 (Int.toNat (imin (↑(D.len dp) : Int) 1600))))) :
                                              Int) ∧
                                          (↑(D.len (join7D p (D.sub dp 0 (Int.toNat (imin (↑(D.len dp) : Int) 1600))))) :
                                              Int) ≤
                                            (↑(D.len (join7D p (D.sub dp 0 (Int.toNat (imin (↑(D.len dp) : Int) 1600))))) :
                                              Int)))
                                  (RT.br
                                    (!ByteArray.toList
                                          (D.str
                                            (D.cell
                                              (D.get
                                                (D.l
                                                  [D.t
                                                      [D.ki 8, D.ki 2,
                                                        un
                                                          (pro7D p
                                                            (D.sub dp (Int.toNat 0)
                                                              (Int.toNat (imin (↑(D.len dp) : Int) 1600)))
                                                            2)]])
                                                (Int.toNat 0))
                                              (Nat.succ 1))) ==
                                        ByteArray.toList
                                          (D.str
                                            (D.sub
                                              (join7D p
                                                (D.sub dp (Int.toNat 0) (Int.toNat (imin (↑(D.len dp) : Int) 1600))))
                                              (Int.toNat 0)
                                              (Int.toNat
                                                (imin
                                                  (↑(D.len
                                                        (join7D p
                                                          (D.sub dp (Int.toNat 0)
                                                            (Int.toNat (imin (↑(D.len dp) : Int) 1600))))) :
                                                    Int)
                                                  1488)))))
                                    (RT.ok (AV.sc true (Value.bool false))) (RT.ok (AV.sc true (Value.bool true))))
                                  (RT.bad 37)))))
                          (RT.br (join7E p (D.sub dp 0 (Int.toNat (imin (↑(D.len dp) : Int) 1600))) != 0)
                            (RT.br (join7E p (D.sub dp 0 (Int.toNat (imin (↑(D.len dp) : Int) 1600))) != 0)
                              (RT.ok (AV.sc true (Value.bool true))) (RT.ok (AV.sc true (Value.bool false))))
                            (RT.br (join7E p (D.sub dp 0 (Int.toNat (imin (↑(D.len dp) : Int) 1600))) != 0)
                              (RT.ok (AV.sc true (Value.bool false)))
                              (RT.br
                                (decide
                                  ((0 : Int) ≤ 0 ∧
                                    0 ≤
                                        imin
                                          (↑(D.len (join7D p (D.sub dp 0 (Int.toNat (imin (↑(D.len dp) : Int) 1600))))) :
                                            Int)
                                          1488 ∧
                                      imin
                                            (↑(D.len (join7D p (D.sub dp 0 (Int.toNat (imin (↑(D.len dp) : Int) 1600))))) :
                                              Int)
                                            1488 ≤
                                          (↑(D.len (join7D p (D.sub dp 0 (Int.toNat (imin (↑(D.len dp) : Int) 1600))))) :
                                            Int) ∧
                                        (↑(D.len (join7D p (D.sub dp 0 (Int.toNat (imin (↑(D.len dp) : Int) 1600))))) :
                                            Int) ≤
                                          (↑(D.len (join7D p (D.sub dp 0 (Int.toNat (imin (↑(D.len dp) : Int) 1600))))) :
                                            Int)))
                                (RT.br
                                  (!ByteArray.toList
                                        (D.str
                                          (D.cell
                                            (D.get
                                              (D.l
                                                [D.t
                                                    [D.ki 8, D.ki 2,
                                                      un
                                                        (pro7D p
                                                          (D.sub dp (Int.toNat 0)
                                                            (Int.toNat (imin (↑(D.len dp) : Int) 1600)))
                                                          2)]])
                                              (Int.toNat 0))
                                            (Nat.succ 1))) ==
                                      ByteArray.toList
                                        (D.str
                                          (D.sub
                                            (join7D p (D.sub dp (Int.toNat 0) (Int.toNat (imin (↑(D.len dp) : Int) 1600))))
                                            (Int.toNat 0)
                                            (Int.toNat
                                              (imin
                                                (↑(D.len
                                                      (join7D p
                                                        (D.sub dp (Int.toNat 0)
                                                          (Int.toNat (imin (↑(D.len dp) : Int) 1600))))) :
                                                  Int)
                                                1488)))))
                                  (RT.ok (AV.sc true (Value.bool false))) (RT.ok (AV.sc true (Value.bool true))))
                                (RT.bad 37))))))
                      (RT.bad 37))
                    (RT.bad 261))
                  (RT.br
                    (decide
                      ((IntKind.wrap IntKind.i64 code < 1 ∨ 11 < IntKind.wrap IntKind.i64 code) ∧
                        enc7E (IntKind.wrap IntKind.i64 code) ii (D.sub dd 0 (Int.toNat (imin (↑(D.len dd) : Int) 1600))) =
                          0))
                    (RT.br
                      (decide
                        ((0 : Int) ≤ 0 ∧
                          0 ≤
                              imin
                                (↑(D.len
                                      (enc7D (IntKind.wrap IntKind.i64 code) ii
                                        (D.sub dd 0 (Int.toNat (imin (↑(D.len dd) : Int) 1600))))) :
                                  Int)
                                1488 ∧
                            imin
                                  (↑(D.len
                                        (enc7D (IntKind.wrap IntKind.i64 code) ii
                                          (D.sub dd 0 (Int.toNat (imin (↑(D.len dd) : Int) 1600))))) :
                                    Int)
                                  1488 ≤
                                (↑(D.len
                                      (enc7D (IntKind.wrap IntKind.i64 code) ii
                                        (D.sub dd 0 (Int.toNat (imin (↑(D.len dd) : Int) 1600))))) :
                                  Int) ∧
                              (↑(D.len
                                      (enc7D (IntKind.wrap IntKind.i64 code) ii
                                        (D.sub dd 0 (Int.toNat (imin (↑(D.len dd) : Int) 1600))))) :
                                  Int) ≤
                                (↑(D.len
                                      (enc7D (IntKind.wrap IntKind.i64 code) ii
                                        (D.sub dd 0 (Int.toNat (imin (↑(D.len dd) : Int) 1600))))) :
                                  Int)))
                      (RT.br
                        (!ByteArray.toList
                              (D.str
                                (D.cell
                                  (D.get
                                    (D.l
                                      [D.t
                                          [D.ki 7, D.ki 2,
                                            un
                                              (rej7D (IntKind.wrap IntKind.i64 code) ii
                                                (D.sub dd (Int.toNat 0) (Int.toNat (imin (↑(D.len dd) : Int) 1600))) 2)]])
                                    (Int.toNat 0))
                                  (Nat.succ 1))) ==
                            ByteArray.toList
                              (D.str
                                (D.sub
                                  (enc7D (IntKind.wrap IntKind.i64 code) ii
                                    (D.sub dd (Int.toNat 0) (Int.toNat (imin (↑(D.len dd) : Int) 1600))))
                                  (Int.toNat 0)
                                  (Int.toNat
                                    (imin
                                      (↑(D.len
                                            (enc7D (IntKind.wrap IntKind.i64 code) ii
                                              (D.sub dd (Int.toNat 0) (Int.toNat (imin (↑(D.len dd) : Int) 1600))))) :
                                        Int)
                                      1488)))))
                        (RT.ok (AV.sc true (Value.bool false)))
                        (RT.all
                          (RT.all
                            (RT.br (join7E p (D.sub dp 0 (Int.toNat (imin (↑(D.len dp) : Int) 1600))) != 0)
                              (RT.br (join7E p (D.sub dp 0 (Int.toNat (imin (↑(D.len dp) : Int) 1600))) != 0)
                                (RT.ok (AV.sc true (Value.bool true))) (RT.ok (AV.sc true (Value.bool false))))
                              (RT.br (join7E p (D.sub dp 0 (Int.toNat (imin (↑(D.len dp) : Int) 1600))) != 0)
                                (RT.ok (AV.sc true (Value.bool false)))
                                (RT.br
                                  (decide
                                    ((0 : Int) ≤ 0 ∧
                                      0 ≤
                                          imin
                                            (↑(D.len (join7D p (D.sub dp 0 (Int.toNat (imin (↑(D.len dp) : Int) 1600))))) :
                                              Int)
                                            1488 ∧
                                        imin
                                              (↑(D.len
                                                    (join7D p (D.sub dp 0 (Int.toNat (imin (↑(D.len dp) : Int) 1600))))) :
                                                Int)
                                              1488 ≤
                                            (↑(D.len (join7D p (D.sub dp 0 (Int.toNat (imin (↑(D.len dp) : Int) 1600))))) :
                                              Int) ∧
                                          (↑(D.len (join7D p (D.sub dp 0 (Int.toNat (imin (↑(D.len dp) : Int) 1600))))) :
                                              Int) ≤
                                            (↑(D.len (join7D p (D.sub dp 0 (Int.toNat (imin (↑(D.len dp) : Int) 1600))))) :
                                              Int)))
                                  (RT.br
                                    (!ByteArray.toList
                                          (D.str
                                            (D.cell
                                              (D.get
                                                (D.l
                                                  [D.t
                                                      [D.ki 8, D.ki 2,
                                                        un
                                                          (pro7D p
                                                            (D.sub dp (Int.toNat 0)
                                                              (Int.toNat (imin (↑(D.len dp) : Int) 1600)))
                                                            2)]])
                                                (Int.toNat 0))
                                              (Nat.succ 1))) ==
                                        ByteArray.toList
                                          (D.str
                                            (D.sub
                                              (join7D p
                                                (D.sub dp (Int.toNat 0) (Int.toNat (imin (↑(D.len dp) : Int) 1600))))
                                              (Int.toNat 0)
                                              (Int.toNat
                                                (imin
                                                  (↑(D.len
                                                        (join7D p
                                                          (D.sub dp (Int.toNat 0)
                                                            (Int.toNat (imin (↑(D.len dp) : Int) 1600))))) :
                                                    Int)
                                                  1488)))))
                                    (RT.ok (AV.sc true (Value.bool false))) (RT.ok (AV.sc true (Value.bool true))))
                                  (RT.bad 37))))
                            (RT.br (join7E p (D.sub dp 0 (Int.toNat (imin (↑(D.len dp) : Int) 1600))) != 0)
                              (RT.br (join7E p (D.sub dp 0 (Int.toNat (imin (↑(D.len dp) : Int) 1600))) != 0)
                                (RT.ok (AV.sc true (Value.bool true))) (RT.ok (AV.sc true (Value.bool false))))
                              (RT.br (join7E p (D.sub dp 0 (Int.toNat (imin (↑(D.len dp) : Int) 1600))) != 0)
                                (RT.ok (AV.sc true (Value.bool false)))
                                (RT.br
                                  (decide
                                    ((0 : Int) ≤ 0 ∧
                                      0 ≤
                                          imin
                                            (↑(D.len (join7D p (D.sub dp 0 (Int.toNat (imin (↑(D.len dp) : Int) 1600))))) :
                                              Int)
                                            1488 ∧
                                        imin
                                              (↑(D.len
                                                    (join7D p (D.sub dp 0 (Int.toNat (imin (↑(D.len dp) : Int) 1600))))) :
                                                Int)
                                              1488 ≤
                                            (↑(D.len (join7D p (D.sub dp 0 (Int.toNat (imin (↑(D.len dp) : Int) 1600))))) :
                                              Int) ∧
                                          (↑(D.len (join7D p (D.sub dp 0 (Int.toNat (imin (↑(D.len dp) : Int) 1600))))) :
                                              Int) ≤
                                            (↑(D.len (join7D p (D.sub dp 0 (Int.toNat (imin (↑(D.len dp) : Int) 1600))))) :
                                              Int)))
                                  (RT.br
                                    (!ByteArray.toList
                                          (D.str
                                            (D.cell
                                              (D.get
                                                (D.l
                                                  [D.t
                                                      [D.ki 8, D.ki 2,
                                                        un
                                                          (pro7D p
                                                            (D.sub dp (Int.toNat 0)
                                                              (Int.toNat (imin (↑(D.len dp) : Int) 1600)))
                                                            2)]])
                                                (Int.toNat 0))
                                              (Nat.succ 1))) ==
                                        ByteArray.toList
                                          (D.str
                                            (D.sub
                                              (join7D p
                                                (D.sub dp (Int.toNat 0) (Int.toNat (imin (↑(D.len dp) : Int) 1600))))
                                              (Int.toNat 0)
                                              (Int.toNat
                                                (imin
                                                  (↑(D.len
                                                        (join7D p
                                                          (D.sub dp (Int.toNat 0)
                                                            (Int.toNat (imin (↑(D.len dp) : Int) 1600))))) :
                                                    Int)
                                                  1488)))))
                                    (RT.ok (AV.sc true (Value.bool false))) (RT.ok (AV.sc true (Value.bool true))))
                                  (RT.bad 37)))))
                          (RT.br (join7E p (D.sub dp 0 (Int.toNat (imin (↑(D.len dp) : Int) 1600))) != 0)
                            (RT.br (join7E p (D.sub dp 0 (Int.toNat (imin (↑(D.len dp) : Int) 1600))) != 0)
                              (RT.ok (AV.sc true (Value.bool true))) (RT.ok (AV.sc true (Value.bool false))))
                            (RT.br (join7E p (D.sub dp 0 (Int.toNat (imin (↑(D.len dp) : Int) 1600))) != 0)
                              (RT.ok (AV.sc true (Value.bool false)))
                              (RT.br
                                (decide
                                  ((0 : Int) ≤ 0 ∧
                                    0 ≤
                                        imin
                                          (↑(D.len (join7D p (D.sub dp 0 (Int.toNat (imin (↑(D.len dp) : Int) 1600))))) :
                                            Int)
                                          1488 ∧
                                      imin
                                            (↑(D.len (join7D p (D.sub dp 0 (Int.toNat (imin (↑(D.len dp) : Int) 1600))))) :
                                              Int)
                                            1488 ≤
                                          (↑(D.len (join7D p (D.sub dp 0 (Int.toNat (imin (↑(D.len dp) : Int) 1600))))) :
                                            Int) ∧
                                        (↑(D.len (join7D p (D.sub dp 0 (Int.toNat (imin (↑(D.len dp) : Int) 1600))))) :
                                            Int) ≤
                                          (↑(D.len (join7D p (D.sub dp 0 (Int.toNat (imin (↑(D.len dp) : Int) 1600))))) :
                                            Int)))
                                (RT.br
                                  (!ByteArray.toList
                                        (D.str
                                          (D.cell
                                            (D.get
                                              (D.l
                                                [D.t
                                                    [D.ki 8, D.ki 2,
                                                      un
                                                        (pro7D p
                                                          (D.sub dp (Int.toNat 0)
                                                            (Int.toNat (imin (↑(D.len dp) : Int) 1600)))
                                                          2)]])
                                              (Int.toNat 0))
                                            (Nat.succ 1))) ==
                                      ByteArray.toList
                                        (D.str
                                          (D.sub
                                            (join7D p (D.sub dp (Int.toNat 0) (Int.toNat (imin (↑(D.len dp) : Int) 1600))))
                                            (Int.toNat 0)
                                            (Int.toNat
                                              (imin
                                                (↑(D.len
                                                      (join7D p
                                                        (D.sub dp (Int.toNat 0)
                                                          (Int.toNat (imin (↑(D.len dp) : Int) 1600))))) :
                                                  Int)
                                                1488)))))
                                  (RT.ok (AV.sc true (Value.bool false))) (RT.ok (AV.sc true (Value.bool true))))
                                (RT.bad 37))))))
                      (RT.bad 37))
                    (RT.bad 261)))
                (RT.br
                  (decide
                    ((IntKind.wrap IntKind.i64 code < 1 ∨ 11 < IntKind.wrap IntKind.i64 code) ∧
                      enc7E (IntKind.wrap IntKind.i64 code) ii (D.sub dd 0 (Int.toNat (imin (↑(D.len dd) : Int) 1600))) =
                        0))
                  (RT.br
                    (decide
                      ((0 : Int) ≤ 0 ∧
                        0 ≤
                            imin
                              (↑(D.len
                                    (enc7D (IntKind.wrap IntKind.i64 code) ii
                                      (D.sub dd 0 (Int.toNat (imin (↑(D.len dd) : Int) 1600))))) :
                                Int)
                              1488 ∧
                          imin
                                (↑(D.len
                                      (enc7D (IntKind.wrap IntKind.i64 code) ii
                                        (D.sub dd 0 (Int.toNat (imin (↑(D.len dd) : Int) 1600))))) :
                                  Int)
                                1488 ≤
                              (↑(D.len
                                    (enc7D (IntKind.wrap IntKind.i64 code) ii
                                      (D.sub dd 0 (Int.toNat (imin (↑(D.len dd) : Int) 1600))))) :
                                Int) ∧
                            (↑(D.len
                                    (enc7D (IntKind.wrap IntKind.i64 code) ii
                                      (D.sub dd 0 (Int.toNat (imin (↑(D.len dd) : Int) 1600))))) :
                                Int) ≤
                              (↑(D.len
                                    (enc7D (IntKind.wrap IntKind.i64 code) ii
                                      (D.sub dd 0 (Int.toNat (imin (↑(D.len dd) : Int) 1600))))) :
                                Int)))
                    (RT.br
                      (!ByteArray.toList
                            (D.str
                              (D.cell
                                (D.get
                                  (D.l
                                    [D.t
                                        [D.ki 7, D.ki 2,
                                          un
                                            (rej7D (IntKind.wrap IntKind.i64 code) ii
                                              (D.sub dd (Int.toNat 0) (Int.toNat (imin (↑(D.len dd) : Int) 1600))) 2)]])
                                  (Int.toNat 0))
                                (Nat.succ 1))) ==
                          ByteArray.toList
                            (D.str
                              (D.sub
                                (enc7D (IntKind.wrap IntKind.i64 code) ii
                                  (D.sub dd (Int.toNat 0) (Int.toNat (imin (↑(D.len dd) : Int) 1600))))
                                (Int.toNat 0)
                                (Int.toNat
                                  (imin
                                    (↑(D.len
                                          (enc7D (IntKind.wrap IntKind.i64 code) ii
                                            (D.sub dd (Int.toNat 0) (Int.toNat (imin (↑(D.len dd) : Int) 1600))))) :
                                      Int)
                                    1488)))))
                      (RT.ok (AV.sc true (Value.bool false)))
                      (RT.all
                        (RT.all
                          (RT.br (join7E p (D.sub dp 0 (Int.toNat (imin (↑(D.len dp) : Int) 1600))) != 0)
                            (RT.br (join7E p (D.sub dp 0 (Int.toNat (imin (↑(D.len dp) : Int) 1600))) != 0)
                              (RT.ok (AV.sc true (Value.bool true))) (RT.ok (AV.sc true (Value.bool false))))
                            (RT.br (join7E p (D.sub dp 0 (Int.toNat (imin (↑(D.len dp) : Int) 1600))) != 0)
                              (RT.ok (AV.sc true (Value.bool false)))
                              (RT.br
                                (decide
                                  ((0 : Int) ≤ 0 ∧
                                    0 ≤
                                        imin
                                          (↑(D.len (join7D p (D.sub dp 0 (Int.toNat (imin (↑(D.len dp) : Int) 1600))))) :
                                            Int)
                                          1488 ∧
                                      imin
                                            (↑(D.len (join7D p (D.sub dp 0 (Int.toNat (imin (↑(D.len dp) : Int) 1600))))) :
                                              Int)
                                            1488 ≤
                                          (↑(D.len (join7D p (D.sub dp 0 (Int.toNat (imin (↑(D.len dp) : Int) 1600))))) :
                                            Int) ∧
                                        (↑(D.len (join7D p (D.sub dp 0 (Int.toNat (imin (↑(D.len dp) : Int) 1600))))) :
                                            Int) ≤
                                          (↑(D.len (join7D p (D.sub dp 0 (Int.toNat (imin (↑(D.len dp) : Int) 1600))))) :
                                            Int)))
                                (RT.br
                                  (!ByteArray.toList
                                        (D.str
                                          (D.cell
                                            (D.get
                                              (D.l
                                                [D.t
                                                    [D.ki 8, D.ki 2,
                                                      un
                                                        (pro7D p
                                                          (D.sub dp (Int.toNat 0)
                                                            (Int.toNat (imin (↑(D.len dp) : Int) 1600)))
                                                          2)]])
                                              (Int.toNat 0))
                                            (Nat.succ 1))) ==
                                      ByteArray.toList
                                        (D.str
                                          (D.sub
                                            (join7D p (D.sub dp (Int.toNat 0) (Int.toNat (imin (↑(D.len dp) : Int) 1600))))
                                            (Int.toNat 0)
                                            (Int.toNat
                                              (imin
                                                (↑(D.len
                                                      (join7D p
                                                        (D.sub dp (Int.toNat 0)
                                                          (Int.toNat (imin (↑(D.len dp) : Int) 1600))))) :
                                                  Int)
                                                1488)))))
                                  (RT.ok (AV.sc true (Value.bool false))) (RT.ok (AV.sc true (Value.bool true))))
                                (RT.bad 37))))
                          (RT.br (join7E p (D.sub dp 0 (Int.toNat (imin (↑(D.len dp) : Int) 1600))) != 0)
                            (RT.br (join7E p (D.sub dp 0 (Int.toNat (imin (↑(D.len dp) : Int) 1600))) != 0)
                              (RT.ok (AV.sc true (Value.bool true))) (RT.ok (AV.sc true (Value.bool false))))
                            (RT.br (join7E p (D.sub dp 0 (Int.toNat (imin (↑(D.len dp) : Int) 1600))) != 0)
                              (RT.ok (AV.sc true (Value.bool false)))
                              (RT.br
                                (decide
                                  ((0 : Int) ≤ 0 ∧
                                    0 ≤
                                        imin
                                          (↑(D.len (join7D p (D.sub dp 0 (Int.toNat (imin (↑(D.len dp) : Int) 1600))))) :
                                            Int)
                                          1488 ∧
                                      imin
                                            (↑(D.len (join7D p (D.sub dp 0 (Int.toNat (imin (↑(D.len dp) : Int) 1600))))) :
                                              Int)
                                            1488 ≤
                                          (↑(D.len (join7D p (D.sub dp 0 (Int.toNat (imin (↑(D.len dp) : Int) 1600))))) :
                                            Int) ∧
                                        (↑(D.len (join7D p (D.sub dp 0 (Int.toNat (imin (↑(D.len dp) : Int) 1600))))) :
                                            Int) ≤
                                          (↑(D.len (join7D p (D.sub dp 0 (Int.toNat (imin (↑(D.len dp) : Int) 1600))))) :
                                            Int)))
                                (RT.br
                                  (!ByteArray.toList
                                        (D.str
                                          (D.cell
                                            (D.get
                                              (D.l
                                                [D.t
                                                    [D.ki 8, D.ki 2,
                                                      un
                                                        (pro7D p
                                                          (D.sub dp (Int.toNat 0)
                                                            (Int.toNat (imin (↑(D.len dp) : Int) 1600)))
                                                          2)]])
                                              (Int.toNat 0))
                                            (Nat.succ 1))) ==
                                      ByteArray.toList
                                        (D.str
                                          (D.sub
                                            (join7D p (D.sub dp (Int.toNat 0) (Int.toNat (imin (↑(D.len dp) : Int) 1600))))
                                            (Int.toNat 0)
                                            (Int.toNat
                                              (imin
                                                (↑(D.len
                                                      (join7D p
                                                        (D.sub dp (Int.toNat 0)
                                                          (Int.toNat (imin (↑(D.len dp) : Int) 1600))))) :
                                                  Int)
                                                1488)))))
                                  (RT.ok (AV.sc true (Value.bool false))) (RT.ok (AV.sc true (Value.bool true))))
                                (RT.bad 37)))))
                        (RT.br (join7E p (D.sub dp 0 (Int.toNat (imin (↑(D.len dp) : Int) 1600))) != 0)
                          (RT.br (join7E p (D.sub dp 0 (Int.toNat (imin (↑(D.len dp) : Int) 1600))) != 0)
                            (RT.ok (AV.sc true (Value.bool true))) (RT.ok (AV.sc true (Value.bool false))))
                          (RT.br (join7E p (D.sub dp 0 (Int.toNat (imin (↑(D.len dp) : Int) 1600))) != 0)
                            (RT.ok (AV.sc true (Value.bool false)))
                            (RT.br
                              (decide
                                ((0 : Int) ≤ 0 ∧
                                  0 ≤
                                      imin
                                        (↑(D.len (join7D p (D.sub dp 0 (Int.toNat (imin (↑(D.len dp) : Int) 1600))))) : Int)
                                        1488 ∧
                                    imin
                                          (↑(D.len (join7D p (D.sub dp 0 (Int.toNat (imin (↑(D.len dp) : Int) 1600))))) :
                                            Int)
                                          1488 ≤
                                        (↑(D.len (join7D p (D.sub dp 0 (Int.toNat (imin (↑(D.len dp) : Int) 1600))))) :
                                          Int) ∧
                                      (↑(D.len (join7D p (D.sub dp 0 (Int.toNat (imin (↑(D.len dp) : Int) 1600))))) : Int) ≤
                                        (↑(D.len (join7D p (D.sub dp 0 (Int.toNat (imin (↑(D.len dp) : Int) 1600))))) :
                                          Int)))
                              (RT.br
                                (!ByteArray.toList
                                      (D.str
                                        (D.cell
                                          (D.get
                                            (D.l
                                              [D.t
                                                  [D.ki 8, D.ki 2,
                                                    un
                                                      (pro7D p
                                                        (D.sub dp (Int.toNat 0) (Int.toNat (imin (↑(D.len dp) : Int) 1600)))
                                                        2)]])
                                            (Int.toNat 0))
                                          (Nat.succ 1))) ==
                                    ByteArray.toList
                                      (D.str
                                        (D.sub
                                          (join7D p (D.sub dp (Int.toNat 0) (Int.toNat (imin (↑(D.len dp) : Int) 1600))))
                                          (Int.toNat 0)
                                          (Int.toNat
                                            (imin
                                              (↑(D.len
                                                    (join7D p
                                                      (D.sub dp (Int.toNat 0)
                                                        (Int.toNat (imin (↑(D.len dp) : Int) 1600))))) :
                                                Int)
                                              1488)))))
                                (RT.ok (AV.sc true (Value.bool false))) (RT.ok (AV.sc true (Value.bool true))))
                              (RT.bad 37))))))
                    (RT.bad 37))
                  (RT.bad 261)))
              (RT.all
                (RT.all
                  (RT.br (join7E p (D.sub dp 0 (Int.toNat (imin (↑(D.len dp) : Int) 1600))) != 0)
                    (RT.br (join7E p (D.sub dp 0 (Int.toNat (imin (↑(D.len dp) : Int) 1600))) != 0)
                      (RT.ok (AV.sc true (Value.bool true))) (RT.ok (AV.sc true (Value.bool false))))
                    (RT.br (join7E p (D.sub dp 0 (Int.toNat (imin (↑(D.len dp) : Int) 1600))) != 0)
                      (RT.ok (AV.sc true (Value.bool false)))
                      (RT.br
                        (decide
                          ((0 : Int) ≤ 0 ∧
                            0 ≤
                                imin (↑(D.len (join7D p (D.sub dp 0 (Int.toNat (imin (↑(D.len dp) : Int) 1600))))) : Int)
                                  1488 ∧
                              imin (↑(D.len (join7D p (D.sub dp 0 (Int.toNat (imin (↑(D.len dp) : Int) 1600))))) : Int)
                                    1488 ≤
                                  (↑(D.len (join7D p (D.sub dp 0 (Int.toNat (imin (↑(D.len dp) : Int) 1600))))) : Int) ∧
                                (↑(D.len (join7D p (D.sub dp 0 (Int.toNat (imin (↑(D.len dp) : Int) 1600))))) : Int) ≤
                                  (↑(D.len (join7D p (D.sub dp 0 (Int.toNat (imin (↑(D.len dp) : Int) 1600))))) : Int)))
                        (RT.br
                          (!ByteArray.toList
                                (D.str
                                  (D.cell
                                    (D.get
                                      (D.l
                                        [D.t
                                            [D.ki 8, D.ki 2,
                                              un
                                                (pro7D p
                                                  (D.sub dp (Int.toNat 0) (Int.toNat (imin (↑(D.len dp) : Int) 1600))) 2)]])
                                      (Int.toNat 0))
                                    (Nat.succ 1))) ==
                              ByteArray.toList
                                (D.str
                                  (D.sub (join7D p (D.sub dp (Int.toNat 0) (Int.toNat (imin (↑(D.len dp) : Int) 1600))))
                                    (Int.toNat 0)
                                    (Int.toNat
                                      (imin
                                        (↑(D.len
                                              (join7D p
                                                (D.sub dp (Int.toNat 0) (Int.toNat (imin (↑(D.len dp) : Int) 1600))))) :
                                          Int)
                                        1488)))))
                          (RT.ok (AV.sc true (Value.bool false))) (RT.ok (AV.sc true (Value.bool true))))
                        (RT.bad 37))))
                  (RT.br (join7E p (D.sub dp 0 (Int.toNat (imin (↑(D.len dp) : Int) 1600))) != 0)
                    (RT.br (join7E p (D.sub dp 0 (Int.toNat (imin (↑(D.len dp) : Int) 1600))) != 0)
                      (RT.ok (AV.sc true (Value.bool true))) (RT.ok (AV.sc true (Value.bool false))))
                    (RT.br (join7E p (D.sub dp 0 (Int.toNat (imin (↑(D.len dp) : Int) 1600))) != 0)
                      (RT.ok (AV.sc true (Value.bool false)))
                      (RT.br
                        (decide
                          ((0 : Int) ≤ 0 ∧
                            0 ≤
                                imin (↑(D.len (join7D p (D.sub dp 0 (Int.toNat (imin (↑(D.len dp) : Int) 1600))))) : Int)
                                  1488 ∧
                              imin (↑(D.len (join7D p (D.sub dp 0 (Int.toNat (imin (↑(D.len dp) : Int) 1600))))) : Int)
                                    1488 ≤
                                  (↑(D.len (join7D p (D.sub dp 0 (Int.toNat (imin (↑(D.len dp) : Int) 1600))))) : Int) ∧
                                (↑(D.len (join7D p (D.sub dp 0 (Int.toNat (imin (↑(D.len dp) : Int) 1600))))) : Int) ≤
                                  (↑(D.len (join7D p (D.sub dp 0 (Int.toNat (imin (↑(D.len dp) : Int) 1600))))) : Int)))
                        (RT.br
                          (!ByteArray.toList
                                (D.str
                                  (D.cell
                                    (D.get
                                      (D.l
                                        [D.t
                                            [D.ki 8, D.ki 2,
                                              un
                                                (pro7D p
                                                  (D.sub dp (Int.toNat 0) (Int.toNat (imin (↑(D.len dp) : Int) 1600))) 2)]])
                                      (Int.toNat 0))
                                    (Nat.succ 1))) ==
                              ByteArray.toList
                                (D.str
                                  (D.sub (join7D p (D.sub dp (Int.toNat 0) (Int.toNat (imin (↑(D.len dp) : Int) 1600))))
                                    (Int.toNat 0)
                                    (Int.toNat
                                      (imin
                                        (↑(D.len
                                              (join7D p
                                                (D.sub dp (Int.toNat 0) (Int.toNat (imin (↑(D.len dp) : Int) 1600))))) :
                                          Int)
                                        1488)))))
                          (RT.ok (AV.sc true (Value.bool false))) (RT.ok (AV.sc true (Value.bool true))))
                        (RT.bad 37)))))
                (RT.br (join7E p (D.sub dp 0 (Int.toNat (imin (↑(D.len dp) : Int) 1600))) != 0)
                  (RT.br (join7E p (D.sub dp 0 (Int.toNat (imin (↑(D.len dp) : Int) 1600))) != 0)
                    (RT.ok (AV.sc true (Value.bool true))) (RT.ok (AV.sc true (Value.bool false))))
                  (RT.br (join7E p (D.sub dp 0 (Int.toNat (imin (↑(D.len dp) : Int) 1600))) != 0)
                    (RT.ok (AV.sc true (Value.bool false)))
                    (RT.br
                      (decide
                        ((0 : Int) ≤ 0 ∧
                          0 ≤
                              imin (↑(D.len (join7D p (D.sub dp 0 (Int.toNat (imin (↑(D.len dp) : Int) 1600))))) : Int)
                                1488 ∧
                            imin (↑(D.len (join7D p (D.sub dp 0 (Int.toNat (imin (↑(D.len dp) : Int) 1600))))) : Int) 1488 ≤
                                (↑(D.len (join7D p (D.sub dp 0 (Int.toNat (imin (↑(D.len dp) : Int) 1600))))) : Int) ∧
                              (↑(D.len (join7D p (D.sub dp 0 (Int.toNat (imin (↑(D.len dp) : Int) 1600))))) : Int) ≤
                                (↑(D.len (join7D p (D.sub dp 0 (Int.toNat (imin (↑(D.len dp) : Int) 1600))))) : Int)))
                      (RT.br
                        (!ByteArray.toList
                              (D.str
                                (D.cell
                                  (D.get
                                    (D.l
                                      [D.t
                                          [D.ki 8, D.ki 2,
                                            un
                                              (pro7D p (D.sub dp (Int.toNat 0) (Int.toNat (imin (↑(D.len dp) : Int) 1600)))
                                                2)]])
                                    (Int.toNat 0))
                                  (Nat.succ 1))) ==
                            ByteArray.toList
                              (D.str
                                (D.sub (join7D p (D.sub dp (Int.toNat 0) (Int.toNat (imin (↑(D.len dp) : Int) 1600))))
                                  (Int.toNat 0)
                                  (Int.toNat
                                    (imin
                                      (↑(D.len
                                            (join7D p
                                              (D.sub dp (Int.toNat 0) (Int.toNat (imin (↑(D.len dp) : Int) 1600))))) :
                                        Int)
                                      1488)))))
                        (RT.ok (AV.sc true (Value.bool false))) (RT.ok (AV.sc true (Value.bool true))))
                      (RT.bad 37))))))
            (RT.all
              (RT.all
                (RT.br (join7E p (D.sub dp 0 (Int.toNat (imin (↑(D.len dp) : Int) 1600))) != 0)
                  (RT.br (join7E p (D.sub dp 0 (Int.toNat (imin (↑(D.len dp) : Int) 1600))) != 0)
                    (RT.ok (AV.sc true (Value.bool true))) (RT.ok (AV.sc true (Value.bool false))))
                  (RT.br (join7E p (D.sub dp 0 (Int.toNat (imin (↑(D.len dp) : Int) 1600))) != 0)
                    (RT.ok (AV.sc true (Value.bool false)))
                    (RT.br
                      (decide
                        ((0 : Int) ≤ 0 ∧
                          0 ≤
                              imin (↑(D.len (join7D p (D.sub dp 0 (Int.toNat (imin (↑(D.len dp) : Int) 1600))))) : Int)
                                1488 ∧
                            imin (↑(D.len (join7D p (D.sub dp 0 (Int.toNat (imin (↑(D.len dp) : Int) 1600))))) : Int) 1488 ≤
                                (↑(D.len (join7D p (D.sub dp 0 (Int.toNat (imin (↑(D.len dp) : Int) 1600))))) : Int) ∧
                              (↑(D.len (join7D p (D.sub dp 0 (Int.toNat (imin (↑(D.len dp) : Int) 1600))))) : Int) ≤
                                (↑(D.len (join7D p (D.sub dp 0 (Int.toNat (imin (↑(D.len dp) : Int) 1600))))) : Int)))
                      (RT.br
                        (!ByteArray.toList
                              (D.str
                                (D.cell
                                  (D.get
                                    (D.l
                                      [D.t
                                          [D.ki 8, D.ki 2,
                                            un
                                              (pro7D p (D.sub dp (Int.toNat 0) (Int.toNat (imin (↑(D.len dp) : Int) 1600)))
                                                2)]])
                                    (Int.toNat 0))
                                  (Nat.succ 1))) ==
                            ByteArray.toList
                              (D.str
                                (D.sub (join7D p (D.sub dp (Int.toNat 0) (Int.toNat (imin (↑(D.len dp) : Int) 1600))))
                                  (Int.toNat 0)
                                  (Int.toNat
                                    (imin
                                      (↑(D.len
                                            (join7D p
                                              (D.sub dp (Int.toNat 0) (Int.toNat (imin (↑(D.len dp) : Int) 1600))))) :
                                        Int)
                                      1488)))))
                        (RT.ok (AV.sc true (Value.bool false))) (RT.ok (AV.sc true (Value.bool true))))
                      (RT.bad 37))))
                (RT.br (join7E p (D.sub dp 0 (Int.toNat (imin (↑(D.len dp) : Int) 1600))) != 0)
                  (RT.br (join7E p (D.sub dp 0 (Int.toNat (imin (↑(D.len dp) : Int) 1600))) != 0)
                    (RT.ok (AV.sc true (Value.bool true))) (RT.ok (AV.sc true (Value.bool false))))
                  (RT.br (join7E p (D.sub dp 0 (Int.toNat (imin (↑(D.len dp) : Int) 1600))) != 0)
                    (RT.ok (AV.sc true (Value.bool false)))
                    (RT.br
                      (decide
                        ((0 : Int) ≤ 0 ∧
                          0 ≤
                              imin (↑(D.len (join7D p (D.sub dp 0 (Int.toNat (imin (↑(D.len dp) : Int) 1600))))) : Int)
                                1488 ∧
                            imin (↑(D.len (join7D p (D.sub dp 0 (Int.toNat (imin (↑(D.len dp) : Int) 1600))))) : Int) 1488 ≤
                                (↑(D.len (join7D p (D.sub dp 0 (Int.toNat (imin (↑(D.len dp) : Int) 1600))))) : Int) ∧
                              (↑(D.len (join7D p (D.sub dp 0 (Int.toNat (imin (↑(D.len dp) : Int) 1600))))) : Int) ≤
                                (↑(D.len (join7D p (D.sub dp 0 (Int.toNat (imin (↑(D.len dp) : Int) 1600))))) : Int)))
                      (RT.br
                        (!ByteArray.toList
                              (D.str
                                (D.cell
                                  (D.get
                                    (D.l
                                      [D.t
                                          [D.ki 8, D.ki 2,
                                            un
                                              (pro7D p (D.sub dp (Int.toNat 0) (Int.toNat (imin (↑(D.len dp) : Int) 1600)))
                                                2)]])
                                    (Int.toNat 0))
                                  (Nat.succ 1))) ==
                            ByteArray.toList
                              (D.str
                                (D.sub (join7D p (D.sub dp (Int.toNat 0) (Int.toNat (imin (↑(D.len dp) : Int) 1600))))
                                  (Int.toNat 0)
                                  (Int.toNat
                                    (imin
                                      (↑(D.len
                                            (join7D p
                                              (D.sub dp (Int.toNat 0) (Int.toNat (imin (↑(D.len dp) : Int) 1600))))) :
                                        Int)
                                      1488)))))
                        (RT.ok (AV.sc true (Value.bool false))) (RT.ok (AV.sc true (Value.bool true))))
                      (RT.bad 37)))))
              (RT.br (join7E p (D.sub dp 0 (Int.toNat (imin (↑(D.len dp) : Int) 1600))) != 0)
                (RT.br (join7E p (D.sub dp 0 (Int.toNat (imin (↑(D.len dp) : Int) 1600))) != 0)
                  (RT.ok (AV.sc true (Value.bool true))) (RT.ok (AV.sc true (Value.bool false))))
                (RT.br (join7E p (D.sub dp 0 (Int.toNat (imin (↑(D.len dp) : Int) 1600))) != 0)
                  (RT.ok (AV.sc true (Value.bool false)))
                  (RT.br
                    (decide
                      ((0 : Int) ≤ 0 ∧
                        0 ≤ imin (↑(D.len (join7D p (D.sub dp 0 (Int.toNat (imin (↑(D.len dp) : Int) 1600))))) : Int) 1488 ∧
                          imin (↑(D.len (join7D p (D.sub dp 0 (Int.toNat (imin (↑(D.len dp) : Int) 1600))))) : Int) 1488 ≤
                              (↑(D.len (join7D p (D.sub dp 0 (Int.toNat (imin (↑(D.len dp) : Int) 1600))))) : Int) ∧
                            (↑(D.len (join7D p (D.sub dp 0 (Int.toNat (imin (↑(D.len dp) : Int) 1600))))) : Int) ≤
                              (↑(D.len (join7D p (D.sub dp 0 (Int.toNat (imin (↑(D.len dp) : Int) 1600))))) : Int)))
                    (RT.br
                      (!ByteArray.toList
                            (D.str
                              (D.cell
                                (D.get
                                  (D.l
                                    [D.t
                                        [D.ki 8, D.ki 2,
                                          un
                                            (pro7D p (D.sub dp (Int.toNat 0) (Int.toNat (imin (↑(D.len dp) : Int) 1600)))
                                              2)]])
                                  (Int.toNat 0))
                                (Nat.succ 1))) ==
                          ByteArray.toList
                            (D.str
                              (D.sub (join7D p (D.sub dp (Int.toNat 0) (Int.toNat (imin (↑(D.len dp) : Int) 1600))))
                                (Int.toNat 0)
                                (Int.toNat
                                  (imin
                                    (↑(D.len
                                          (join7D p (D.sub dp (Int.toNat 0) (Int.toNat (imin (↑(D.len dp) : Int) 1600))))) :
                                      Int)
                                    1488)))))
                      (RT.ok (AV.sc true (Value.bool false))) (RT.ok (AV.sc true (Value.bool true))))
                    (RT.bad 37)))))))
        (RT.bad 37))
      (RT.bad 37) := by rw [← fvF_eq Tryz.prog (gam (lnG Tryz.prog)) (lam ([])) false 100 6]; kernel_rfl
end
end Go.Proofs.YtcambhbmobepjaaGreat

namespace Go.Proofs.YtcambhbmobepjaaGreat
set_option linter.unusedSimpArgs false
set_option linter.unusedVariables false
open Go.RowKit
set_option maxRecDepth 100000
noncomputable section
theorem get_one0 (x : D) : D.get (D.l [x]) (Int.toNat 0) = x := by simp [D.get, D.toL, D.raw, maxLen]
theorem get_one (x : D) : D.get (D.l [x]) 0 = x := get_one0 x
theorem cell_two (a b c : D) : D.cell (D.t [a, b, c]) (Nat.succ 1) = c := rfl
theorem str_un (d : D) : D.str (un d) = D.str d := rfl
theorem bnd_all {n k : Int} (hn : 0 ≤ n) (hk : 0 ≤ k) : ((0 : Int) ≤ 0 ∧ 0 ≤ imin n k ∧ imin n k ≤ n ∧ n ≤ n) := by
  unfold imin; split <;> omega
theorem bnd1 (n : Nat) : ((0 : Int) ≤ 0 ∧ 0 ≤ imin (n : Int) 1600 ∧ imin (n : Int) 1600 ≤ (n : Int) ∧ (n : Int) ≤ (n : Int)) := bnd_all (by omega) (by omega)
theorem bnd2 (n : Nat) : ((0 : Int) ≤ 0 ∧ 0 ≤ imin (n : Int) 1488 ∧ imin (n : Int) 1488 ≤ (n : Int) ∧ (n : Int) ≤ (n : Int)) := bnd_all (by omega) (by omega)
theorem imin_nat (n k : Nat) : Int.toNat (imin (n : Int) (k : Int)) = min n k := by unfold imin; split <;> omega
theorem rej_str {c i : Int} {X : D} (h : enc7E c i X = 0) : D.str (un (rej7D c i X 2)) = D.str (D.sub (enc7D c i X) 0 (Int.toNat (imin (↑(D.len (enc7D c i X)) : Int) 1488))) := by
  rw [str_un]
  have : rej7E c i X 2 = 0 := by unfold rej7E; rw [if_pos (by decide), h]
  unfold rej7D
  rw [if_pos this, show ((1488 : Int)) = ((1488 : Nat) : Int) from rfl, imin_nat]
theorem pro_str {p : Int} {X : D} (h : join7E p X = 0) : D.str (un (pro7D p X 2)) = D.str (D.sub (join7D p X) 0 (Int.toNat (imin (↑(D.len (join7D p X)) : Int) 1488))) := by
  rw [str_un]
  have : pro7E p X 2 = 0 := by unfold pro7E; rw [if_pos (by decide), h]
  unfold pro7D
  rw [if_pos this, show ((1488 : Int)) = ((1488 : Nat) : Int) from rfl, imin_nat]
set_option maxHeartbeats 4000000 in
theorem none_true (code ic ii : Int) (dd : D) (p : Int) (dp : D) (hc : 0 ≤ code ∧ code ≤ 255) :
    Tru (treeF (evF Tryz.prog (gam (lnG Tryz.prog)) (lam ([])) 100 6) [.sc false (.int .u8 code), .agg [ai ic, ai ii, asl byS dd], .agg [ai p, asl byS dp]]) := by
  rw [none_tree]
  constructor
  have hw : IntKind.wrap IntKind.i64 code = code := i64_id ⟨hc.1, by omega⟩
  have h0 : Int.toNat 0 = 0 := rfl
  have hL : Le (.sc true (.bool true)) (.sc false (.bool true)) := le_bool rfl
  simp only [hw, h0, get_one, cell_two, bnd1, bnd2, decide_true, Int.le_refl, and_self]
  generalize hX : D.sub dd 0 (Int.toNat (imin (↑(D.len dd) : Int) 1600)) = X
  generalize hY : D.sub dp 0 (Int.toNat (imin (↑(D.len dp) : Int) 1600)) = Y
  by_cases hcn : code < 1 ∨ 11 < code
  rotate_left
  · have hz : (code == 0) = false := beq_false_of_ne (by omega)
    have hg : decide (11 < code) = false := decide_eq_false (by omega)
    by_cases hJ : join7E p Y = 0
    · have hjb : (join7E p Y != 0) = false := by rw [hJ]; rfl
      simp only [RT.holds, hz, hg, hjb, pro_str hJ, beq_self_eq_true, Bool.not_true, Bool.not_false, Bool.false_eq_true, Bool.true_eq_false, false_implies, true_implies, implies_true, and_true, true_and, and_self]
      exact hL
    · have hjb : (join7E p Y != 0) = true := bne_iff_ne.2 hJ
      simp only [RT.holds, hz, hg, hjb, beq_self_eq_true, Bool.not_true, Bool.not_false, Bool.false_eq_true, Bool.true_eq_false, false_implies, true_implies, implies_true, and_true, true_and, and_self]
      exact hL
  have fin : ((code == 0) = true → Le (AV.sc true (Value.bool true)) (AV.sc false (Value.bool true))) ∧ ((code == 0) = false → (decide (11 < code) = true → Le (AV.sc true (Value.bool true)) (AV.sc false (Value.bool true))) ∧ (decide (11 < code) = false → Le (AV.sc true (Value.bool true)) (AV.sc false (Value.bool true)))) := ⟨fun _ => hL, fun _ => ⟨fun _ => hL, fun _ => hL⟩⟩
  by_cases hE : enc7E code ii X = 0
  · have heb : (enc7E code ii X == 0) = true := by rw [hE]; rfl
    have hd : decide ((code < 1 ∨ 11 < code) ∧ enc7E code ii X = 0) = true := decide_eq_true ⟨hcn, hE⟩
    by_cases hJ : join7E p Y = 0
    · have hjb : (join7E p Y != 0) = false := by rw [hJ]; rfl
      simp only [RT.holds, hjb, heb, hd, rej_str hE, pro_str hJ, beq_self_eq_true, Bool.not_true, Bool.not_false, Bool.false_eq_true, Bool.true_eq_false, false_implies, true_implies, and_true, true_and, and_self]
      exact fin
    · have hjb : (join7E p Y != 0) = true := bne_iff_ne.2 hJ
      simp only [RT.holds, hjb, heb, hd, rej_str hE, beq_self_eq_true, Bool.not_true, Bool.not_false, Bool.false_eq_true, Bool.true_eq_false, false_implies, true_implies, and_true, true_and, and_self]
      exact fin
  · have heb : (enc7E code ii X == 0) = false := beq_false_of_ne hE
    by_cases hJ : join7E p Y = 0
    · have hjb : (join7E p Y != 0) = false := by rw [hJ]; rfl
      simp only [RT.holds, hjb, heb, pro_str hJ, beq_self_eq_true, Bool.not_true, Bool.not_false, Bool.false_eq_true, Bool.true_eq_false, false_implies, true_implies, and_true, true_and, and_self]
      exact fin
    · have hjb : (join7E p Y != 0) = true := bne_iff_ne.2 hJ
      simp only [RT.holds, hjb, heb, beq_self_eq_true, Bool.not_true, Bool.not_false, Bool.false_eq_true, Bool.true_eq_false, false_implies, true_implies, and_true, true_and, and_self]
      exact fin
theorem none_any {A : List AV} {code ic ii : Int} {dd : D} {p : Int} {dp : D} (hA : A = [.sc false (.int .u8 code), .agg [ai ic, ai ii, asl byS dd], .agg [ai p, asl byS dp]]) (hc : 0 ≤ code ∧ code ≤ 255) :
    Tru (treeF (evF Tryz.prog (gam (lnG Tryz.prog)) (lam []) 100 6) A) := by
  subst hA
  exact none_true code ic ii dd p dp hc
theorem none_join (x0_0 x1_0 x1_1 x1_2 x2_0 x2_1 : D) (g0 : wfL [.int .u8] [x0_0]) (_ : wfL [.int .i64, .int .i64, .sl [.int .u8]] [x1_0, x1_1, x1_2]) (_ : wfL [.int .i64, .sl [.int .u8]] [x2_0, x2_1]) :
    Tru (treeF (evF Tryz.prog (gam (lnG Tryz.prog)) (lam []) 100 6) [leaf false (.int .u8) x0_0, .agg (avL [.int .i64, .int .i64, .sl [.int .u8]] [x1_0, x1_1, x1_2]), .agg (avL [.int .i64, .sl [.int .u8]] [x2_0, x2_1])]) :=
  none_any (show ([leaf false (.int .u8) x0_0, .agg (avL [.int .i64, .int .i64, .sl [.int .u8]] [x1_0, x1_1, x1_2]), .agg (avL [.int .i64, .sl [.int .u8]] [x2_0, x2_1])] : List AV) = [.sc false (.int .u8 x0_0.toI), .agg [ai x1_0.toI, ai x1_1.toI, asl byS x1_2], .agg [ai x2_0.toI, asl byS x2_1]] from rfl) (by
    have h2 : IntKind.u8.min ≤ x0_0.toI ∧ x0_0.toI ≤ IntKind.u8.max := g0.1
    have e1 : IntKind.u8.min = 0 := by decide
    have e2 : IntKind.u8.max = 255 := by decide
    omega)
end
end Go.Proofs.YtcambhbmobepjaaGreat
