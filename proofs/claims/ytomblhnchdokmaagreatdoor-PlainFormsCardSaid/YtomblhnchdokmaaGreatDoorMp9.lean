/- Mp9: texts of this claim, one behind the other: Kx5 Kx6 Kx9 Kx7 Kx8 Ky0. No condition. -/
import Derived.Test.YtomblhnchdokmaaGreatDoorMp8
namespace Go.Proofs.YtomblhnchdokmaaGreatDoor
set_option linter.unusedSimpArgs false
set_option linter.unusedVariables false
open Go.RowKit
set_option maxRecDepth 100000
noncomputable section
-- DEFS
def wAt (d : D) (j : Nat) : Int := ((d.get j).cell 0).toI
def bitU (k : Nat) : Int := IntKind.wrap .u64 (1 * 2 ^ min k 64)
def orW (w : Int) (k : Nat) : Int := IntKind.wrap .u64 ((BitVec.ofInt 64 w ||| BitVec.ofInt 64 (bitU k)).toNat : Int)
def anW (w : Int) (k : Nat) : Int := IntKind.wrap .u64 ((BitVec.ofInt 64 w &&& ~~~BitVec.ofInt 64 (bitU k)).toNat : Int)
def setB (d : D) (i : Nat) : D := d.setE (i / 64) (.t [.i (orW (wAt d (i / 64)) (i % 64))])
def clrB (d : D) (i : Nat) : D := d.setE (i / 64) (.t [.i (anW (wAt d (i / 64)) (i % 64))])
def ownR (d : D) : Nat → D
  | 0 => d
  | i + 1 => setB (ownR d i) i
def clrR (d rs : D) : Nat → D
  | 0 => d
  | k + 1 => clrB (clrR d rs k) (rsC rs k).toNat
def plaT : plaX × Nat → RT Out := foldT (fun a => a.n.toNat) (fun a => decide (0 ≤ a.n ∧ a.n ≤ 65536 ∧ a.n ≤ 64 * (a.no : Int) ∧ a.no = a.ow.len)) (fun a i => plaF a i (ownR a.ow i)) (fun a i => plaH a i (ownR a.ow i))
def plbI (rs : D) (no : Nat) (k : Nat) : Bool := decide (0 ≤ rsC rs k ∧ rsC rs k < 65536 ∧ (rsC rs k).toNat / 64 < no)
def plbT : plbX × Nat → RT Out := foldT (fun a => a.rs.len) (fun a => decide (a.n = (a.rs.len : Int) ∧ a.no = a.ow.len) && sOk (plbI a.rs a.no) a.rs.len 0) (fun a i => plbF a i (clrR a.ow a.rs i)) (fun a i => plbH a i (clrR a.ow a.rs i))
def polLs (P : Program) : List (FuncId × Nat × BSpec) := [(22, 0, loopS P plaL plaDec plaT), (22, 2, loopS P plbL plbDec plbT)]
-- END
-- STOPS: ownR clrR plbI
theorem ownR_len (d : D) : ∀ i, (ownR d i).len = d.len
  | 0 => rfl
  | i + 1 => (setE_len _ _ _).trans (ownR_len d i)
theorem clrR_len (d rs : D) : ∀ i, (clrR d rs i).len = d.len
  | 0 => rfl
  | i + 1 => (setE_len _ _ _).trans (clrR_len d rs i)
theorem i_div {i : Nat} (h : i ≤ 65536) : IntKind.wrap IntKind.i64 (Int.tdiv (i : Int) 64) = ((i / 64 : Nat) : Int) := by
  rw [show Int.tdiv (i : Int) 64 = ((i / 64 : Nat) : Int) from rfl, wrap_i64 (by omega)]
theorem i_mod (i : Nat) : IntKind.wrap IntKind.u64 (Int.tmod (i : Int) 64) = ((i % 64 : Nat) : Int) := by
  rw [show Int.tmod (i : Int) 64 = ((i % 64 : Nat) : Int) from rfl, wrap_u64 (by omega)]
theorem pla_loop : LamE Tryz.prog 22 0 (loopS Tryz.prog plaL plaDec plaT) := by
  refine fold_loop (gs := []) (ls := []) mixed trivial trivial _ 0 100 (by kernel_rfl) plaL (fun F h x hx => by obtain ⟨a, rfl, h1, h2⟩ := plaDec_0 F h x hx; exact ⟨h1, h2⟩) ?_
  rintro ⟨n, ba, sz, rs, fw, ow, b2, s2, nf, no, lf⟩ i K hok hi H1 H2
  obtain ⟨k1, k2, k3, k4⟩ : 0 ≤ n ∧ n ≤ 65536 ∧ n ≤ 64 * (no : Int) ∧ no = ow.len := of_decide_eq_true hok
  dsimp only at hi H1 H2
  have hg := ownR_len ow i
  show (roundT plaL (evC _ _ _ _ _ _ (plaF ⟨n, ba, sz, rs, fw, ow, b2, s2, nf, no, lf⟩ i (ownR ow i)) (plaH ⟨n, ba, sz, rs, fw, ow, b2, s2, nf, no, lf⟩ i (ownR ow i)))).holds _
  unfold plaL plaF plaH
  rw [pla_body]
  have hi' : i ≤ 65536 := by omega
  simp only [i_div hi', i_mod i, Int.toNat_natCast]
  refine ⟨fun h1 => ⟨fun _ => ⟨fun h2 => ⟨fun h3 => ⟨fun _ => ⟨fun h4 => ⟨fun _ => ⟨fun _ => ?_, fun h => ?_⟩, fun h => ?_⟩, fun h4 => ?_⟩, fun h => by cases h⟩, fun h3 => ?_⟩, fun h2 => ?_⟩, fun h => by cases h⟩, fun h1 => ?_⟩
  · have h1 : (i : Int) < n := of_decide_eq_true h1
    rw [wrap_nat (show i < n.toNat by omega) (by unfold maxLen; omega)]
    exact H1 (by omega)
  · exact absurd (h3.symm.trans h) (by decide)
  · exact absurd (h2.symm.trans h) (by decide)
  · have := of_decide_eq_false h4; omega
  · have h1 : (i : Int) < n := of_decide_eq_true h1
    have := of_decide_eq_false h3; omega
  · have h1 : (i : Int) < n := of_decide_eq_true h1
    have := of_decide_eq_false h2; omega
  · have h1 : ¬ (i : Int) < n := of_decide_eq_false h1
    obtain rfl : i = n.toNat := by omega
    exact H2 rfl
theorem plb_loop : LamE Tryz.prog 22 2 (loopS Tryz.prog plbL plbDec plbT) := by
  refine fold_loop (gs := []) (ls := []) mixed trivial trivial _ 2 100 (by kernel_rfl) plbL (fun F h x hx => by obtain ⟨a, rfl, h1, h2⟩ := plbDec_0 F h x hx; exact ⟨h1, h2⟩) ?_
  rintro ⟨rs, n, ba, sz, r2, fw, ow, b2, s2, nf, no, lf⟩ i K hok hi H1 H2
  dsimp only at hi H1 H2
  have hok : (decide (n = (rs.len : Int) ∧ no = ow.len) && sOk (plbI rs no) rs.len 0) = true := hok
  rw [Bool.and_eq_true] at hok
  obtain ⟨rfl, k4⟩ := of_decide_eq_true hok.1
  have hall := sOk_iff.1 hok.2
  have hm := rs.len_le
  have hg := clrR_len ow rs i
  show (roundT plbL (evC _ _ _ _ _ _ (plbF ⟨rs, rs.len, ba, sz, r2, fw, ow, b2, s2, nf, no, lf⟩ i (clrR ow rs i)) (plbH ⟨rs, rs.len, ba, sz, r2, fw, ow, b2, s2, nf, no, lf⟩ i (clrR ow rs i)))).holds _
  unfold plbL plbF plbH
  rw [plb_body]
  simp only [Int.toNat_natCast]
  by_cases hlt : i < rs.len
  · obtain ⟨q1, q2, q3⟩ : 0 ≤ rsC rs i ∧ rsC rs i < 65536 ∧ (rsC rs i).toNat / 64 < no := of_decide_eq_true (hall i (Nat.zero_le _) (by omega))
    obtain ⟨m, hm2⟩ : ∃ m : Nat, rsC rs i = (m : Int) := ⟨(rsC rs i).toNat, by omega⟩
    have hm3 : (rsC rs i).toNat = m := by omega
    have hx : D.toI (D.cell (D.get rs i) 0) = (m : Int) := hm2
    have hmm : m ≤ 65536 := by omega
    rw [hm3] at q3
    simp only [hx, i_div hmm, i_mod m, Int.toNat_natCast]
    refine ⟨fun h1 => ⟨fun _ => ⟨fun _ => ⟨fun h2 => ⟨fun h3 => ⟨fun _ => ⟨fun h4 => ⟨fun _ => ⟨fun _ => ?_, fun h => ?_⟩, fun h => ?_⟩, fun h4 => ?_⟩, fun h => by cases h⟩, fun h3 => ?_⟩, fun h2 => ?_⟩, fun h => by cases h⟩, fun h => ?_⟩, fun h1 => ?_⟩
    · rw [wrap_nat hlt hm]
      have := H1 hlt
      rw [show clrR ow rs (i + 1) = clrB (clrR ow rs i) m by show clrB _ (rsC rs i).toNat = _; rw [hm3]] at this
      exact this
    · exact absurd (h3.symm.trans h) (by decide)
    · exact absurd (h2.symm.trans h) (by decide)
    · have := of_decide_eq_false h4; omega
    · have := of_decide_eq_false h3; omega
    · have := of_decide_eq_false h2; omega
    · have := of_decide_eq_false h; omega
    · have := of_decide_eq_false h1; omega
  · refine ⟨fun h1 => ?_, fun h1 => ?_⟩
    · have := of_decide_eq_true h1; omega
    · obtain rfl : i = rs.len := by omega
      exact H2 rfl
theorem polLs_ok : LamL Tryz.prog (polLs Tryz.prog) := ⟨pla_loop, plb_loop, trivial⟩
end
end Go.Proofs.YtomblhnchdokmaaGreatDoor

namespace Go.Proofs.YtomblhnchdokmaaGreatDoor
set_option linter.unusedSimpArgs false
set_option linter.unusedVariables false
open Go.RowKit
set_option maxRecDepth 100000
noncomputable section
-- NATLE
-- DEFS
def polG (P : Program) : List (FuncId × Spec) := [(63, pureS P 63 FPck)]
def nwN (sz : Int) : Nat := ((sz + 63) / 64).toNat
def ownD (sz : Int) (rs : D) : D := clrR (ownR (repD (nwN sz) (.t [.ki 0])) sz.toNat) rs rs.len
abbrev rgC (ba sz : Int) (rs : D) : List AV := [ik ba, ik sz, .sl false [.int .i64] rs none]
def polO (ba sz : Int) (rs : D) : Hp := ⟨[(0, rgC ba sz rs), (1, [.rw [.int .u64] (ownD sz rs)]), (2, [.rw [.int .u64] (ownD sz rs)]), (3, [ik ba, ik sz, .rsl false 1 1 (nwN sz), .rsl false 2 1 (nwN sz), ik (sz - (rs.len : Int)), .sc false (.bool true)])], 4, [], 0, 1000, 1000⟩
def FPol : Spec := fun args h => match args, h with
  | [.agg [.sc false (.int .i64 ba), .sc false (.int .i64 sz), .sl false [.int .i64] rs none]], ⟨[], 0, [], 0, 0, 0⟩ => .br (poolB ba sz rs) (.ok (.tup [.ptr 3 0, ik 0], polO ba sz rs)) (.ok (.tup [.sc true (.pointer none), ik 120], ⟨[(0, rgC ba sz rs)], 4, [], 0, 1000, 1000⟩))
  | _, _ => .bad 662
-- END
-- STOPS: ownD nwN
theorem repD_len {n : Nat} {e : D} (h : n ≤ maxLen) : (repD n e).len = n := by
  unfold repD D.len
  rw [toL_l (by rw [List.length_replicate]; exact h), List.length_replicate]
theorem poolB_of {ba sz : Int} {rs : D} (h : poolB ba sz rs = true) : (1 ≤ ba ∧ ba ≤ 4294967294 ∧ 0 ≤ sz ∧ sz ≤ 65536 ∧ ba + sz - 1 ≤ 4294967294) ∧ ∀ k, k < rs.len → (0 ≤ rsC rs k ∧ rsC rs k < sz) ∧ (k = 0 ∨ rsC rs (k - 1) < rsC rs k) := by
  unfold poolB at h
  rw [Bool.and_eq_true] at h
  refine ⟨of_decide_eq_true h.1, fun k hk => ?_⟩
  have := sOk_iff.1 h.2 k (Nat.zero_le _) (by omega)
  unfold pcB at this
  simp only [Bool.and_eq_true, Bool.or_eq_true, decide_eq_true_eq] at this
  exact this
/-- numbers that rise from 0 on, all below sz, are no more than sz -/
theorem rise_len {rs : D} {sz : Int} (h : ∀ k, k < rs.len → (0 ≤ rsC rs k ∧ rsC rs k < sz) ∧ (k = 0 ∨ rsC rs (k - 1) < rsC rs k)) : ∀ k, k < rs.len → (k : Int) ≤ rsC rs k
  | 0, hk => (h 0 hk).1.1
  | k + 1, hk => by
    have ih := rise_len h k (by omega)
    have := (h (k + 1) hk).2
    rcases this with h0 | h1
    · omega
    · rw [Nat.add_sub_cancel] at h1; omega
theorem nw_eq {sz : Int} (h : 0 ≤ sz ∧ sz ≤ 65536) : IntKind.wrap IntKind.i64 (Int.tdiv (IntKind.wrap IntKind.i64 (IntKind.wrap IntKind.i64 (sz + 64) - 1)) 64) = ((nwN sz : Nat) : Int) := by
  rw [wrap_i64 (n := sz + 64) (by omega), wrap_i64 (n := sz + 64 - 1) (by omega), Int.tdiv_eq_ediv_of_nonneg (by omega), wrap_i64 (by omega)]
  unfold nwN
  omega
theorem nw_le {sz : Int} (h : 0 ≤ sz ∧ sz ≤ 65536) : (nwN sz ≤ 1024) ∧ sz ≤ 64 * (nwN sz : Int) := by
  unfold nwN
  omega
theorem polG_ok : GamL Tryz.prog (polG Tryz.prog) := ⟨pck_soundF, trivial⟩
theorem pol_tree (ba sz : Int) (rs : D) : treeO 4 (evF Tryz.prog (gam (polG Tryz.prog)) (lam (polLs Tryz.prog)) 100 22) [.agg [ik ba, ik sz, .sl false inS rs none]] hp0 =
    RT.br (pcE ba sz rs != 0)
      (RT.ok
        (AV.tup [AV.sc true (Value.pointer none), AV.sc true (Value.int IntKind.i64 120)],
          {
            ob :=
              [(0,
                  [AV.sc false (Value.int IntKind.i64 ba), AV.sc false (Value.int IntKind.i64 sz),
                    AV.sl false [Sh.int IntKind.i64] rs none])],
            nx := 4, gn := [], nv := 0, ng := 1000, ep := 1000 }))
      (RT.br true
        (RT.br
          (decide
            (0 ≤
                IntKind.wrap IntKind.i64 (Int.tdiv (IntKind.wrap IntKind.i64 (IntKind.wrap IntKind.i64 (sz + 64) - 1)) 64) ∧
              IntKind.wrap IntKind.i64 (Int.tdiv (IntKind.wrap IntKind.i64 (IntKind.wrap IntKind.i64 (sz + 64) - 1)) 64) =
                  IntKind.wrap IntKind.i64
                    (Int.tdiv (IntKind.wrap IntKind.i64 (IntKind.wrap IntKind.i64 (sz + 64) - 1)) 64) ∧
                IntKind.wrap IntKind.i64 (Int.tdiv (IntKind.wrap IntKind.i64 (IntKind.wrap IntKind.i64 (sz + 64) - 1)) 64) ≤
                  16777216))
          (RT.br true
            (RT.br
              (decide
                (0 ≤
                    IntKind.wrap IntKind.i64
                      (Int.tdiv (IntKind.wrap IntKind.i64 (IntKind.wrap IntKind.i64 (sz + 64) - 1)) 64) ∧
                  IntKind.wrap IntKind.i64
                        (Int.tdiv (IntKind.wrap IntKind.i64 (IntKind.wrap IntKind.i64 (sz + 64) - 1)) 64) =
                      IntKind.wrap IntKind.i64
                        (Int.tdiv (IntKind.wrap IntKind.i64 (IntKind.wrap IntKind.i64 (sz + 64) - 1)) 64) ∧
                    IntKind.wrap IntKind.i64
                        (Int.tdiv (IntKind.wrap IntKind.i64 (IntKind.wrap IntKind.i64 (sz + 64) - 1)) 64) ≤
                      16777216))
              (RT.br
                (decide
                    (0 ≤ sz ∧
                      sz ≤ 65536 ∧
                        sz ≤
                            64 *
                              (↑(Int.toNat
                                    (Int.ofNat
                                      (Int.toNat
                                        (IntKind.wrap IntKind.i64
                                          (Int.tdiv (IntKind.wrap IntKind.i64 (IntKind.wrap IntKind.i64 (sz + 64) - 1))
                                            64))))) :
                                Int) ∧
                          Int.toNat
                              (Int.ofNat
                                (Int.toNat
                                  (IntKind.wrap IntKind.i64
                                    (Int.tdiv (IntKind.wrap IntKind.i64 (IntKind.wrap IntKind.i64 (sz + 64) - 1)) 64)))) =
                            D.len
                              (repD
                                (Int.toNat
                                  (IntKind.wrap IntKind.i64
                                    (Int.tdiv (IntKind.wrap IntKind.i64 (IntKind.wrap IntKind.i64 (sz + 64) - 1)) 64)))
                                (D.t [D.ki 0]))) &&
                  true)
                (RT.br
                  (decide
                        ((↑(D.len rs) : Int) = (↑(D.len rs) : Int) ∧
                          Int.toNat
                              (Int.ofNat
                                (Int.toNat
                                  (Int.ofNat
                                    (Int.toNat
                                      (IntKind.wrap IntKind.i64
                                        (Int.tdiv (IntKind.wrap IntKind.i64 (IntKind.wrap IntKind.i64 (sz + 64) - 1))
                                          64)))))) =
                            D.len
                              (ownR
                                (repD
                                  (Int.toNat
                                    (IntKind.wrap IntKind.i64
                                      (Int.tdiv (IntKind.wrap IntKind.i64 (IntKind.wrap IntKind.i64 (sz + 64) - 1)) 64)))
                                  (D.t [D.ki 0]))
                                (Int.toNat sz))) &&
                      sOk
                        (plbI rs
                          (Int.toNat
                            (D.toI
                              (D.i
                                (Int.ofNat
                                  (Int.toNat
                                    (D.toI
                                      (D.i
                                        (Int.ofNat
                                          (Int.toNat
                                            (IntKind.wrap IntKind.i64
                                              (Int.tdiv (IntKind.wrap IntKind.i64 (IntKind.wrap IntKind.i64 (sz + 64) - 1))
                                                64))))))))))))
                        (D.len rs) 0 &&
                    true)
                  (RT.br
                    (decide
                      (Int.toNat
                            (Int.ofNat
                              (Int.toNat
                                (Int.ofNat
                                  (Int.toNat
                                    (IntKind.wrap IntKind.i64
                                      (Int.tdiv (IntKind.wrap IntKind.i64 (IntKind.wrap IntKind.i64 (sz + 64) - 1))
                                        64)))))) =
                          D.len
                            (repD
                              (Int.toNat
                                (IntKind.wrap IntKind.i64
                                  (Int.tdiv (IntKind.wrap IntKind.i64 (IntKind.wrap IntKind.i64 (sz + 64) - 1)) 64)))
                              (D.t [D.ki 0])) ∧
                        Int.toNat
                              (Int.ofNat
                                (Int.toNat
                                  (Int.ofNat
                                    (Int.toNat
                                      (IntKind.wrap IntKind.i64
                                        (Int.tdiv (IntKind.wrap IntKind.i64 (IntKind.wrap IntKind.i64 (sz + 64) - 1))
                                          64)))))) =
                            D.len
                              (clrR
                                (ownR
                                  (repD
                                    (Int.toNat
                                      (IntKind.wrap IntKind.i64
                                        (Int.tdiv (IntKind.wrap IntKind.i64 (IntKind.wrap IntKind.i64 (sz + 64) - 1)) 64)))
                                    (D.t [D.ki 0]))
                                  (Int.toNat sz))
                                rs (D.len rs)) ∧
                          Int.toNat
                              (Int.ofNat
                                (Int.toNat
                                  (Int.ofNat
                                    (Int.toNat
                                      (IntKind.wrap IntKind.i64
                                        (Int.tdiv (IntKind.wrap IntKind.i64 (IntKind.wrap IntKind.i64 (sz + 64) - 1))
                                          64)))))) =
                            Int.toNat
                              (Int.ofNat
                                (Int.toNat
                                  (Int.ofNat
                                    (Int.toNat
                                      (IntKind.wrap IntKind.i64
                                        (Int.tdiv (IntKind.wrap IntKind.i64 (IntKind.wrap IntKind.i64 (sz + 64) - 1))
                                          64))))))))
                    (RT.ok
                      (AV.tup [AV.ptr 3 0, AV.sc true (Value.int IntKind.i64 0)],
                        {
                          ob :=
                            [(0,
                                [AV.sc false (Value.int IntKind.i64 ba), AV.sc false (Value.int IntKind.i64 sz),
                                  AV.sl false [Sh.int IntKind.i64] rs none]),
                              (1,
                                [AV.rw [Sh.int IntKind.u64]
                                    (clrR
                                      (ownR
                                        (repD
                                          (Int.toNat
                                            (IntKind.wrap IntKind.i64
                                              (Int.tdiv (IntKind.wrap IntKind.i64 (IntKind.wrap IntKind.i64 (sz + 64) - 1))
                                                64)))
                                          (D.t [D.ki 0]))
                                        (Int.toNat sz))
                                      rs (D.len rs))]),
                              (2,
                                [AV.rw [Sh.int IntKind.u64]
                                    (clrR
                                      (ownR
                                        (repD
                                          (Int.toNat
                                            (IntKind.wrap IntKind.i64
                                              (Int.tdiv (IntKind.wrap IntKind.i64 (IntKind.wrap IntKind.i64 (sz + 64) - 1))
                                                64)))
                                          (D.t [D.ki 0]))
                                        (Int.toNat sz))
                                      rs (D.len rs))]),
                              (3,
                                [AV.sc false (Value.int IntKind.i64 ba), AV.sc false (Value.int IntKind.i64 sz),
                                  AV.rsl false 1 1
                                    (Int.toNat
                                      (Int.ofNat
                                        (Int.toNat
                                          (Int.ofNat
                                            (Int.toNat
                                              (IntKind.wrap IntKind.i64
                                                (Int.tdiv
                                                  (IntKind.wrap IntKind.i64 (IntKind.wrap IntKind.i64 (sz + 64) - 1))
                                                  64))))))),
                                  AV.rsl false 2 1
                                    (Int.toNat
                                      (Int.ofNat
                                        (Int.toNat
                                          (Int.ofNat
                                            (Int.toNat
                                              (IntKind.wrap IntKind.i64
                                                (Int.tdiv
                                                  (IntKind.wrap IntKind.i64 (IntKind.wrap IntKind.i64 (sz + 64) - 1))
                                                  64))))))),
                                  AV.sc false (Value.int IntKind.i64 (IntKind.wrap IntKind.i64 (sz - (↑(D.len rs) : Int)))),
                                  AV.sc false (Value.bool true)])],
                          nx := 4, gn := [], nv := 0, ng := 1000, ep := 1000 }))
                    (RT.bad 655))
                  (RT.bad 210))
                (RT.bad 210))
              (RT.bad 651))
            (RT.bad 20))
          (RT.bad 651))
        (RT.bad 20)) := by kernel_rfl
theorem pol_soundF : SoundF Tryz.prog 22 (newT FPol) := newT_ok (by
  refine obj_in mixed polG_ok polLs_ok _ 100 4 fun args h K H => ?_
  unfold FPol at H
  split at H
  · rename_i ba sz rs
    refine ⟨rfl, ?_⟩
    rw [show ([.agg [.sc false (.int .i64 ba), .sc false (.int .i64 sz), .sl false [.int .i64] rs none]] : List AV) = [.agg [ik ba, ik sz, .sl false inS rs none]] from rfl, show (⟨[], 0, [], 0, 0, 0⟩ : Hp) = hp0 from rfl, pol_tree]
    refine ⟨fun h0 => ?_, fun h0 => ?_⟩
    · refine ⟨_, le_tup (leL_cons (Le.refl _) (leL_cons (le_int rfl) leL_nil)), H.2 ?_⟩
      cases hb : poolB ba sz rs
      · rfl
      · unfold pcE at h0; rw [hb] at h0; cases h0
    · have hb : poolB ba sz rs = true := by
        cases hb : poolB ba sz rs
        · unfold pcE at h0; rw [hb] at h0; cases h0
        · rfl
      obtain ⟨⟨q1, q2, q3, q4, q5⟩, hall⟩ := poolB_of hb
      obtain ⟨n1, n2⟩ := nw_le ⟨q3, q4⟩
      have hm := rs.len_le
      have hrl : (rs.len : Int) ≤ sz := by
        rcases Nat.eq_zero_or_pos rs.len with h | h
        · omega
        · have h1 := rise_len hall (rs.len - 1) (by omega)
          have h2 := (hall (rs.len - 1) (by omega)).1
          omega
      have hrep : (repD (nwN sz) (D.t [D.ki 0])).len = nwN sz := repD_len (by unfold maxLen; omega)
      have hown : ∀ i, (ownR (repD (nwN sz) (D.t [D.ki 0])) i).len = nwN sz := fun i => (ownR_len _ i).trans hrep
      have hclr : ∀ i, (clrR (ownR (repD (nwN sz) (D.t [D.ki 0])) sz.toNat) rs i).len = nwN sz := fun i => (clrR_len _ _ i).trans (hown _)
      have hpl : sOk (plbI rs (nwN sz)) rs.len 0 = true := sOk_iff.2 fun k _ hk => by
        have := (hall k (by omega)).1
        exact decide_eq_true ⟨by omega, by omega, by omega⟩
      have toI_i : ∀ n : Int, D.toI (D.i n) = n := fun _ => rfl
      simp only [nw_eq ⟨q3, q4⟩, Int.toNat_natCast, Int.ofNat_eq_natCast, toI_i, hrep, hown, hclr, hpl]
      rw [wrap_i64 (n := sz - (rs.len : Int)) (by omega)]
      refine ⟨fun _ => ⟨fun _ => ⟨fun _ => ⟨fun _ => ⟨fun _ => ⟨fun _ => ⟨fun _ => ?_, fun h => ?_⟩, fun h => ?_⟩, fun h => ?_⟩, fun h => ?_⟩, fun h => by cases h⟩, fun h => ?_⟩, fun h => by cases h⟩
      · exact ⟨_, le_tup (leL_cons (Le.refl _) (leL_cons (le_int rfl) leL_nil)), H.1 hb⟩
      · exact absurd (by simp <;> omega) (of_decide_eq_false h)
      · rw [Bool.and_true, Bool.and_true] at h; exact absurd (by simp <;> omega) (of_decide_eq_false h)
      · rw [Bool.and_true] at h; exact absurd (by simp <;> omega) (of_decide_eq_false h)
      · exact absurd (by simp <;> omega) (of_decide_eq_false h)
      · exact absurd (by simp <;> omega) (of_decide_eq_false h)
  · exact H.elim)
end
end Go.Proofs.YtomblhnchdokmaaGreatDoor

namespace Go.Proofs.YtomblhnchdokmaaGreatDoor
set_option linter.unusedSimpArgs false
set_option linter.unusedVariables false
open Go.RowKit
set_option maxRecDepth 100000
noncomputable section
-- NATLE
-- DEFS
abbrev plH (ba sz : Int) (n k : Nat) (f d : D) (lf : Int) : Hp := ⟨[(0, [ik ba, ik sz, .rsl false 1 1 n, .rsl false 2 1 k, ik lf, .sc false (.bool true)]), (1, [.rw [.int .u64] f]), (2, [.rw [.int .u64] d])], 3, [], 0, 0, 0⟩
abbrev plH2 (ba sz : Int) (n k : Nat) (f d : D) (lf : Int) : Hp := ⟨[(0, [ik ba, ik sz, .rsl false 1 1 n, .rsl false 2 1 k, ik lf, .sc false (.bool true)]), (1, [.rw [.int .u64] f]), (2, [.rw [.int .u64] d])], 3, [], 0, 1000, 1000⟩
def bitV (d : D) (i : Nat) : Bool := IntKind.wrap .u64 (((BitVec.ofInt 64 (Int.fdiv (wAt d (i / 64)) (2 ^ (i % 64))) &&& BitVec.ofInt 64 1).toNat : Nat) : Int) == 1
def hasD (ba sz : Int) (d : D) (a : Int) : Bool := decide (ba ≤ a ∧ a < ba + sz) && bitV d (a - ba).toNat
def FHas : Spec := fun args h => match args, h with
  | [.ptr 0 0, .sc false (.int .i64 a)], ⟨[(0, [.sc false (.int .i64 ba), .sc false (.int .i64 sz), .rsl false 1 1 n, .rsl false 2 1 k, .sc false (.int .i64 lf), .sc false (.bool true)]), (1, [.rw [.int .u64] f]), (2, [.rw [.int .u64] d])], 3, [], 0, 0, 0⟩ =>
    need false (decide (1 ≤ ba ∧ ba ≤ 4294967294 ∧ 0 ≤ sz ∧ sz ≤ 65536 ∧ sz ≤ 64 * (k : Int) ∧ k ≤ d.len)) 663 (.ok (.sc false (.bool (hasD ba sz d a)), plH2 ba sz n k f d lf))
  | _, _ => .bad 664
-- END
-- STOPS: wAt hasD
theorem has_tree (ba sz a lf : Int) (n k : Nat) (f d : D) : treeO 3 (evF Tryz.prog (gam []) (lam []) 100 27) [.ptr 0 0, ik a] (plH ba sz n k f d lf) =
    RT.br true
      (RT.br (decide (ba ≤ a))
        (RT.br (decide (a < IntKind.wrap IntKind.i64 (ba + sz)))
          (RT.br true
            (RT.br
              (decide
                (0 ≤ IntKind.wrap IntKind.i64 (Int.tdiv (IntKind.wrap IntKind.i64 (a - ba)) 64) ∧
                  IntKind.wrap IntKind.i64 (Int.tdiv (IntKind.wrap IntKind.i64 (a - ba)) 64) < (↑k : Int)))
              (RT.br
                (decide (Int.toNat (IntKind.wrap IntKind.i64 (Int.tdiv (IntKind.wrap IntKind.i64 (a - ba)) 64)) < D.len d))
                (RT.br true
                  (RT.br (decide (0 ≤ IntKind.wrap IntKind.u64 (Int.tmod (IntKind.wrap IntKind.i64 (a - ba)) 64)))
                    (RT.ok
                      (AV.sc false
                          (Value.bool
                            (IntKind.wrap IntKind.u64
                                (↑(BitVec.toNat
                                      (BitVec.ofInt (IntKind.bits IntKind.u64)
                                          (Int.fdiv
                                            (D.toI
                                              (D.cell
                                                (D.get d
                                                  (Int.toNat
                                                    (IntKind.wrap IntKind.i64
                                                      (Int.tdiv (IntKind.wrap IntKind.i64 (a - ba)) 64))))
                                                0))
                                            (2 ^
                                              min
                                                (Int.toNat
                                                  (IntKind.wrap IntKind.u64
                                                    (Int.tmod (IntKind.wrap IntKind.i64 (a - ba)) 64)))
                                                (IntKind.bits IntKind.u64))) &&&
                                        BitVec.ofInt (IntKind.bits IntKind.u64) 1)) :
                                  Int) ==
                              1)),
                        {
                          ob :=
                            [(0,
                                [AV.sc false (Value.int IntKind.i64 ba), AV.sc false (Value.int IntKind.i64 sz),
                                  AV.rsl false 1 1 n, AV.rsl false 2 1 k, AV.sc false (Value.int IntKind.i64 lf),
                                  AV.sc false (Value.bool true)]),
                              (1, [AV.rw [Sh.int IntKind.u64] f]), (2, [AV.rw [Sh.int IntKind.u64] d])],
                          nx := 3, gn := [], nv := 0, ng := 1000, ep := 1000 }))
                    (RT.bad 26))
                  (RT.bad 21))
                (RT.bad 170))
              (RT.bad 179))
            (RT.bad 20))
          (RT.ok
            (AV.sc true (Value.bool false),
              {
                ob :=
                  [(0,
                      [AV.sc false (Value.int IntKind.i64 ba), AV.sc false (Value.int IntKind.i64 sz), AV.rsl false 1 1 n,
                        AV.rsl false 2 1 k, AV.sc false (Value.int IntKind.i64 lf), AV.sc false (Value.bool true)]),
                    (1, [AV.rw [Sh.int IntKind.u64] f]), (2, [AV.rw [Sh.int IntKind.u64] d])],
                nx := 3, gn := [], nv := 0, ng := 1000, ep := 1000 })))
        (RT.ok
          (AV.sc true (Value.bool false),
            {
              ob :=
                [(0,
                    [AV.sc false (Value.int IntKind.i64 ba), AV.sc false (Value.int IntKind.i64 sz), AV.rsl false 1 1 n,
                      AV.rsl false 2 1 k, AV.sc false (Value.int IntKind.i64 lf), AV.sc false (Value.bool true)]),
                  (1, [AV.rw [Sh.int IntKind.u64] f]), (2, [AV.rw [Sh.int IntKind.u64] d])],
              nx := 3, gn := [], nv := 0, ng := 1000, ep := 1000 })))
      (RT.ok
        (AV.sc true (Value.bool false),
          {
            ob :=
              [(0,
                  [AV.sc false (Value.int IntKind.i64 ba), AV.sc false (Value.int IntKind.i64 sz), AV.rsl false 1 1 n,
                    AV.rsl false 2 1 k, AV.sc false (Value.int IntKind.i64 lf), AV.sc false (Value.bool true)]),
                (1, [AV.rw [Sh.int IntKind.u64] f]), (2, [AV.rw [Sh.int IntKind.u64] d])],
            nx := 3, gn := [], nv := 0, ng := 1000, ep := 1000 })) := by kernel_rfl
theorem has_soundF : SoundF Tryz.prog 27 (objR FHas) := objR_ok (by
  refine obj_in mixed (gs := []) (ls := []) trivial trivial _ 100 3 fun args h K H => ?_
  unfold FHas at H
  split at H
  · rename_i a ba sz n k lf f d
    obtain ⟨hc, H⟩ := need_holds H
    obtain ⟨k1, k2, k3, k4, k5, k6⟩ := of_decide_eq_true hc
    refine ⟨rfl, ?_⟩
    rw [show ([.ptr 0 0, .sc false (.int .i64 a)] : List AV) = [.ptr 0 0, ik a] from rfl, has_tree]
    rw [wrap_i64 (n := ba + sz) (by omega)]
    refine ⟨fun _ => ⟨fun h1 => ⟨fun h2 => ?_, fun h2 => ?_⟩, fun h1 => ?_⟩, fun h => by cases h⟩
    · have h1 := of_decide_eq_true h1
      have h2 := of_decide_eq_true h2
      obtain ⟨i, hi⟩ : ∃ i : Nat, a - ba = (i : Int) := ⟨(a - ba).toNat, by omega⟩
      have hi' : i ≤ 65536 := by omega
      rw [hi, wrap_i64 (n := (i : Int)) (by omega), i_div hi', i_mod i]
      simp only [Int.toNat_natCast]
      refine ⟨fun _ => ⟨fun h3 => ⟨fun h4 => ⟨fun _ => ⟨fun _ => ?_, fun h => ?_⟩, fun h => by cases h⟩, fun h => ?_⟩, fun h => ?_⟩, fun h => by cases h⟩
      · have e : hasD ba sz d a = bitV d i := by
          unfold hasD
          rw [decide_eq_true (show ba ≤ a ∧ a < ba + sz from ⟨h1, h2⟩), Bool.true_and, hi, Int.toNat_natCast]
        have hm : min (i % 64) (IntKind.bits .u64) = i % 64 := by
          show min (i % 64) 64 = _
          omega
        rw [e] at H
        rw [hm]
        exact ⟨_, le_bool rfl, H⟩
      · have := of_decide_eq_false h; omega
      · have := of_decide_eq_false h; omega
      · have := of_decide_eq_false h; omega
    · have h2 := of_decide_eq_false h2
      have e : hasD ba sz d a = false := by
        unfold hasD
        rw [decide_eq_false (show ¬ (ba ≤ a ∧ a < ba + sz) by omega)]; rfl
      rw [e] at H
      exact ⟨_, le_bool rfl, H⟩
    · have h1 := of_decide_eq_false h1
      have e : hasD ba sz d a = false := by
        unfold hasD
        rw [decide_eq_false (show ¬ (ba ≤ a ∧ a < ba + sz) by omega)]; rfl
      rw [e] at H
      exact ⟨_, le_bool rfl, H⟩
  · exact H.elim)
/-! Bits. -/
theorem wrap_bv (b : BitVec 64) : IntKind.wrap .u64 (b.toNat : Int) = (b.toNat : Int) := wrap_u64 (by have := b.isLt; omega)
theorem ofInt_nat (m : Nat) : BitVec.ofInt 64 (m : Int) = BitVec.ofNat 64 m := by
  apply BitVec.eq_of_toNat_eq
  rw [BitVec.toNat_ofInt, BitVec.toNat_ofNat]
  omega
theorem bitU_eq {k : Nat} (h : k < 64) : bitU k = ((2 ^ k : Nat) : Int) := by
  unfold bitU
  have : 2 ^ k < 2 ^ 64 := Nat.pow_lt_pow_right (by omega) h
  rw [show min k 64 = k by omega, Int.one_mul, show (2 : Int) ^ k = ((2 ^ k : Nat) : Int) from (Int.natCast_pow 2 k).symm, wrap_u64]
  generalize 2 ^ k = q at this
  omega
theorem wbit {m j : Nat} (hm : m < 2 ^ 64) (hj : j < 64) : (IntKind.wrap .u64 (((BitVec.ofInt 64 (Int.fdiv (m : Int) (2 ^ j)) &&& BitVec.ofInt 64 1).toNat : Nat) : Int) == 1) = m.testBit j := by
  have hd : Int.fdiv (m : Int) (2 ^ j) = ((m / 2 ^ j : Nat) : Int) := by
    rw [show (2 : Int) ^ j = ((2 ^ j : Nat) : Int) from (Int.natCast_pow 2 j).symm, Int.fdiv_eq_ediv_of_nonneg _ (Int.natCast_nonneg _), ← Int.natCast_ediv]
  rw [wrap_bv, hd, ofInt_nat, show (1 : Int) = ((1 : Nat) : Int) from rfl, ofInt_nat, BitVec.toNat_and, BitVec.toNat_ofNat, BitVec.toNat_ofNat, Nat.testBit_eq_decide_div_mod_eq]
  have h1 : m / 2 ^ j < 2 ^ 64 := Nat.lt_of_le_of_lt (Nat.div_le_self _ _) hm
  rw [Nat.mod_eq_of_lt h1, show 1 % 2 ^ 64 = 1 from rfl, Nat.and_one_is_mod]
  by_cases h : m / 2 ^ j % 2 = 1
  · rw [h]; simp
  · rw [decide_eq_false h]
    have : m / 2 ^ j % 2 = 0 := by omega
    rw [this]; rfl
theorem orW_eq {m k : Nat} (hm : m < 2 ^ 64) (hk : k < 64) : ∃ m' : Nat, orW (m : Int) k = (m' : Int) ∧ m' < 2 ^ 64 ∧ ∀ j, j < 64 → m'.testBit j = (m.testBit j || j == k) := by
  unfold orW
  rw [wrap_bv, ofInt_nat, bitU_eq hk, ofInt_nat]
  refine ⟨_, rfl, BitVec.isLt _, fun j hj => ?_⟩
  have h2 : (2 ^ k) % 2 ^ 64 = 2 ^ k := Nat.mod_eq_of_lt (Nat.pow_lt_pow_right (by omega) hk)
  rw [BitVec.toNat_or, BitVec.toNat_ofNat, BitVec.toNat_ofNat, Nat.mod_eq_of_lt hm, h2, Nat.testBit_or, Nat.testBit_two_pow]
  congr 1
  by_cases e : k = j
  · subst e; simp
  · rw [decide_eq_false e]
    have : ¬ j = k := fun h => e h.symm
    simp [this]
theorem anW_eq {m k : Nat} (hm : m < 2 ^ 64) (hk : k < 64) : ∃ m' : Nat, anW (m : Int) k = (m' : Int) ∧ m' < 2 ^ 64 ∧ ∀ j, j < 64 → m'.testBit j = (m.testBit j && !(j == k)) := by
  unfold anW
  rw [wrap_bv, ofInt_nat, bitU_eq hk, ofInt_nat]
  refine ⟨_, rfl, BitVec.isLt _, fun j hj => ?_⟩
  have h2 : (2 ^ k) % 2 ^ 64 = 2 ^ k := Nat.mod_eq_of_lt (Nat.pow_lt_pow_right (by omega) hk)
  rw [← BitVec.getLsbD, BitVec.getLsbD_and, BitVec.getLsbD_not, BitVec.getLsbD_ofNat, BitVec.getLsbD_ofNat, Nat.testBit_two_pow]
  simp only [hj, decide_true, Bool.true_and]
  congr 2
  by_cases e : k = j
  · subst e; simp
  · rw [decide_eq_false e]
    have : ¬ j = k := fun h => e h.symm
    simp [this]
def wOk (d : D) : Prop := ∀ j, j < d.len → ∃ m : Nat, wAt d j = (m : Int) ∧ m < 2 ^ 64
theorem bitV_eq {d : D} {i m : Nat} (h : wAt d (i / 64) = (m : Int)) (hm : m < 2 ^ 64) : bitV d i = m.testBit (i % 64) := by
  unfold bitV
  rw [h]
  exact wbit hm (Nat.mod_lt _ (by omega))
theorem wAt_set {d : D} {i : Nat} {v : Int} (hi : i < d.len) (j : Nat) : wAt (d.setE i (.t [.i v])) j = if j = i then v else wAt d j := by
  unfold wAt
  rw [setE_get hi]
  split
  · rfl
  · rfl
theorem setB_ok {d : D} {i : Nat} (h : wOk d) (hi : i / 64 < d.len) : wOk (setB d i) ∧ ∀ x, x / 64 < d.len → bitV (setB d i) x = (bitV d x || x == i) := by
  obtain ⟨m, h1, h2⟩ := h _ hi
  obtain ⟨m', h3, h4, h5⟩ := orW_eq h2 (Nat.mod_lt i (show 64 > 0 by omega))
  have hw : ∀ j, wAt (setB d i) j = if j = i / 64 then (m' : Int) else wAt d j := fun j => by
    unfold setB
    rw [wAt_set hi, h1, h3]
  refine ⟨fun j hj => ?_, fun x hx => ?_⟩
  · rw [hw]
    split
    · exact ⟨m', rfl, h4⟩
    · exact h j (by unfold setB at hj; rwa [setE_len] at hj)
  · by_cases e : x / 64 = i / 64
    · have hb : bitV (setB d i) x = m'.testBit (x % 64) := bitV_eq (by rw [hw, if_pos e]) h4
      rw [hb, h5 _ (Nat.mod_lt _ (by omega)), ← bitV_eq (i := x) (by rw [e]; exact h1) h2]
      congr 1
      by_cases e2 : x = i
      · subst e2; simp
      · have : ¬ x % 64 = i % 64 := by omega
        rw [beq_false_of_ne this, beq_false_of_ne e2]
    · obtain ⟨n, g1, g2⟩ := h _ hx
      have hb : bitV (setB d i) x = n.testBit (x % 64) := bitV_eq (by rw [hw, if_neg e]; exact g1) g2
      rw [hb, bitV_eq g1 g2, beq_false_of_ne (show x ≠ i by rintro rfl; exact e rfl), Bool.or_false]
theorem clrB_ok {d : D} {i : Nat} (h : wOk d) (hi : i / 64 < d.len) : wOk (clrB d i) ∧ ∀ x, x / 64 < d.len → bitV (clrB d i) x = (bitV d x && !(x == i)) := by
  obtain ⟨m, h1, h2⟩ := h _ hi
  obtain ⟨m', h3, h4, h5⟩ := anW_eq h2 (Nat.mod_lt i (show 64 > 0 by omega))
  have hw : ∀ j, wAt (clrB d i) j = if j = i / 64 then (m' : Int) else wAt d j := fun j => by
    unfold clrB
    rw [wAt_set hi, h1, h3]
  refine ⟨fun j hj => ?_, fun x hx => ?_⟩
  · rw [hw]
    split
    · exact ⟨m', rfl, h4⟩
    · exact h j (by unfold clrB at hj; rwa [setE_len] at hj)
  · by_cases e : x / 64 = i / 64
    · have hb : bitV (clrB d i) x = m'.testBit (x % 64) := bitV_eq (by rw [hw, if_pos e]) h4
      rw [hb, h5 _ (Nat.mod_lt _ (by omega)), ← bitV_eq (i := x) (by rw [e]; exact h1) h2]
      congr 2
      by_cases e2 : x = i
      · subst e2; simp
      · have : ¬ x % 64 = i % 64 := by omega
        rw [beq_false_of_ne this, beq_false_of_ne e2]
    · obtain ⟨n, g1, g2⟩ := h _ hx
      have hb : bitV (clrB d i) x = n.testBit (x % 64) := bitV_eq (by rw [hw, if_neg e]; exact g1) g2
      rw [hb, bitV_eq g1 g2, beq_false_of_ne (show x ≠ i by rintro rfl; exact e rfl), Bool.not_false, Bool.and_true]
theorem ownR_ok {d : D} (h : wOk d) (hz : ∀ x, x / 64 < d.len → bitV d x = false) : ∀ n, n ≤ 64 * d.len → wOk (ownR d n) ∧ ∀ x, x / 64 < d.len → bitV (ownR d n) x = decide (x < n)
  | 0, _ => ⟨h, fun x hx => by rw [show ownR d 0 = d from rfl, hz x hx]; simp⟩
  | n + 1, hn => by
    obtain ⟨a1, a2⟩ := ownR_ok h hz n (by omega)
    obtain ⟨b1, b2⟩ := setB_ok (i := n) a1 (by rw [ownR_len]; omega)
    refine ⟨b1, fun x hx => ?_⟩
    rw [show ownR d (n + 1) = setB (ownR d n) n from rfl, b2 x (by rw [ownR_len]; exact hx), a2 x hx]
    by_cases e : x = n
    · subst e; simp
    · rw [beq_false_of_ne e, Bool.or_false]
      by_cases e2 : x < n
      · rw [decide_eq_true e2, decide_eq_true (by omega)]
      · rw [decide_eq_false e2, decide_eq_false (by omega)]
def notIn (rs : D) (i : Int) (k : Nat) : Bool := !(rsC rs k == i)
theorem sOk_last {p : Nat → Bool} (n : Nat) : sOk p (n + 1) 0 = (sOk p n 0 && p n) := by
  rw [Bool.eq_iff_iff, Bool.and_eq_true, sOk_iff, sOk_iff]
  exact ⟨fun h => ⟨fun j h1 h2 => h j h1 (by omega), h n (by omega) (by omega)⟩, fun h j h1 h2 => by
    by_cases e : j = n
    · rw [e]; exact h.2
    · exact h.1 j h1 (by omega)⟩
theorem clrR_ok {d rs : D} (h : wOk d) : ∀ n, (∀ k, k < n → 0 ≤ rsC rs k ∧ (rsC rs k).toNat / 64 < d.len) → wOk (clrR d rs n) ∧ ∀ x : Nat, x / 64 < d.len → bitV (clrR d rs n) x = (bitV d x && sOk (notIn rs x) n 0)
  | 0, _ => ⟨h, fun x hx => by rw [show clrR d rs 0 = d from rfl]; simp [sOk]⟩
  | n + 1, hn => by
    obtain ⟨a1, a2⟩ := clrR_ok h n fun k hk => hn k (by omega)
    have hq := hn n (by omega)
    obtain ⟨b1, b2⟩ := clrB_ok (i := (rsC rs n).toNat) a1 (by rw [clrR_len]; exact hq.2)
    refine ⟨b1, fun x hx => ?_⟩
    rw [show clrR d rs (n + 1) = clrB (clrR d rs n) (rsC rs n).toNat from rfl, b2 x (by rw [clrR_len]; exact hx), a2 x hx, sOk_last, Bool.and_assoc]
    congr 2
    unfold notIn
    congr 1
    by_cases e : rsC rs n = (x : Int)
    · rw [e]; simp
    · have : ¬ x = (rsC rs n).toNat := by omega
      rw [beq_false_of_ne this, beq_false_of_ne e]
theorem rep_ok (n : Nat) (hn : n ≤ maxLen) : wOk (repD n (.t [.ki 0])) ∧ ∀ x, x / 64 < n → bitV (repD n (.t [.ki 0])) x = false := by
  have hw : ∀ j, j < n → wAt (repD n (.t [.ki 0])) j = ((0 : Nat) : Int) := fun j hj => by
    unfold wAt D.get repD
    rw [toL_l (by rw [List.length_replicate]; exact hn), List.getD_eq_getElem?_getD, List.getElem?_replicate, if_pos hj]
    rfl
  refine ⟨fun j hj => ⟨0, hw j (by rwa [repD_len hn] at hj), by decide⟩, fun x hx => ?_⟩
  rw [bitV_eq (hw _ hx) (by decide), Nat.zero_testBit]
theorem own_has {ba sz : Int} {rs : D} (h : poolB ba sz rs = true) (a : Int) : hasD ba sz (ownD sz rs) a = (decide (ba ≤ a ∧ a < ba + sz) && sOk (notIn rs (a - ba)) rs.len 0) := by
  obtain ⟨⟨q1, q2, q3, q4, q5⟩, hall⟩ := poolB_of h
  unfold hasD
  by_cases hr : ba ≤ a ∧ a < ba + sz
  · rw [decide_eq_true hr, Bool.true_and, Bool.true_and]
    obtain ⟨i, hi⟩ : ∃ i : Nat, a - ba = (i : Int) := ⟨(a - ba).toNat, by omega⟩
    obtain ⟨n1, n2⟩ := nw_le ⟨q3, q4⟩
    have hm : nwN sz ≤ maxLen := by unfold maxLen; omega
    obtain ⟨r1, r2⟩ := rep_ok (nwN sz) hm
    have hl := repD_len (e := .t [.ki 0]) hm
    obtain ⟨o1, o2⟩ := ownR_ok r1 (fun x hx => r2 x (by rwa [hl] at hx)) sz.toNat (by rw [hl]; omega)
    obtain ⟨c1, c2⟩ := clrR_ok (rs := rs) o1 rs.len fun k hk => ⟨(hall k hk).1.1, by rw [ownR_len, hl]; have := (hall k hk).1; omega⟩
    rw [hi, Int.toNat_natCast]
    unfold ownD
    rw [c2 i (by rw [ownR_len, hl]; omega), o2 i (by rw [hl]; omega), decide_eq_true (by omega), Bool.true_and]
  · rw [decide_eq_false hr, Bool.false_and, Bool.false_and]
end
end Go.Proofs.YtomblhnchdokmaaGreatDoor

namespace Go.Proofs.YtomblhnchdokmaaGreatDoor
set_option linter.unusedSimpArgs false
set_option linter.unusedVariables false
open Go.RowKit
set_option maxRecDepth 100000
noncomputable section
-- NATLE
-- DEFS
def lcfB (a b c d e f g : Int) : Bool := decide (128 ≤ a ∧ a ≤ 1492 ∧ 1 ≤ b ∧ b ≤ 1000 ∧ 1 ≤ c ∧ c ≤ 1000 ∧ 0 ≤ d ∧ d ≤ 1000 ∧ 1 ≤ e ∧ e ≤ 1048576 ∧ 0 ≤ f ∧ f ≤ 1048576 ∧ 1 ≤ g ∧ g ≤ 1000)
def FLft : List AV → RT AV
  | [.agg [.sc false (.int .i64 a), .sc false (.int .i64 b), .sc false (.int .i64 c), .sc false (.int .i64 d), .sc false (.int .i64 e), .sc false (.int .i64 f), .sc false (.int .i64 g)]] => .ok (.sc false (.bool (lcfB a b c d e f g)))
  | _ => .bad 663
def lnE (a b c d e f g o : Int) : Int := bif lcfB a b c d e f g && decide (1 ≤ o ∧ o ≤ 4294967294) then 0 else 190
def FLnw : List AV → RT AV
  | [.agg [.sc false (.int .i64 a), .sc false (.int .i64 b), .sc false (.int .i64 c), .sc false (.int .i64 d), .sc false (.int .i64 e), .sc false (.int .i64 f), .sc false (.int .i64 g), .sc false (.int .i64 o)], .sc false (.int .i64 1)] => .ok (.tup [.agg [.any, .any, .any, .any, .any, .any, .any, .any, .any, .any, .any, .any, .any, .any, .any, .any, .any, .any, .any, .any, .any, .any, .any], ik (lnE a b c d e f g o)])
  | _ => .bad 664
def rateB (a b : Int) : Bool := decide (0 ≤ a ∧ a ≤ 1048576 ∧ 1 ≤ b ∧ b ≤ 1048576)
def bkE (a b : Int) : Int := bif rateB a b then 0 else 100
def FBck : List AV → RT AV
  | [.agg [.sc false (.int .i64 a), .sc false (.int .i64 b)]] => .ok (ik (bkE a b))
  | _ => .bad 665
def ckiE (s : D) (t : Int) : Int := bif decide (1 ≤ s.len ∧ s.len ≤ 64 ∧ 1 ≤ t ∧ t ≤ 1099511627776) then 0 else 90
def FCki : List AV → RT AV
  | [.agg [.sl false [.int .u8] s none, .sc false (.int .i64 t)]] => .ok (ik (ckiE s t))
  | _ => .bad 666
def allI (n a b c d e f : Int) : Bool := a == n && (b == n && (c == n && (d == n && (e == n && f == n))))
def knE (a b c d e f : Int) : Int := bif allI 0 a b c d e f then 1 else bif allI 255 a b c d e f then 2 else bif IntKind.wrap IntKind.u8 ((BitVec.ofInt 8 a &&& BitVec.ofInt 8 1).toNat : Int) == 1 then 3 else 4
def FKnd : List AV → RT AV
  | [.agg [.sc false (.int .u8 a), .sc false (.int .u8 b), .sc false (.int .u8 c), .sc false (.int .u8 d), .sc false (.int .u8 e), .sc false (.int .u8 f)]] => .ok (ik (knE a b c d e f))
  | _ => .bad 667
def lftG (P : Program) : List (FuncId × Spec) := [(103, pureS P 103 FLft)]
-- END
-- STOPS: lcfB lnE bkE rateB ckiE knE allI
theorem lft_tree (a b c d e f g : Int) : treeF (evF Tryz.prog (gam ([])) (lam ([])) 100 103) [.agg [ik a, ik b, ik c, ik d, ik e, ik f, ik g]] =
    RT.br (decide (128 ≤ a))
      (RT.br (decide (a ≤ 1492))
        (RT.br (decide (1 ≤ b))
          (RT.br (decide (b ≤ 1000))
            (RT.br (decide (1 ≤ c))
              (RT.br (decide (c ≤ 1000))
                (RT.br (decide (0 ≤ d))
                  (RT.br (decide (d ≤ 1000))
                    (RT.br (decide (1 ≤ e))
                      (RT.br (decide (e ≤ 1048576))
                        (RT.br (decide (0 ≤ f))
                          (RT.br (decide (f ≤ 1048576))
                            (RT.br (decide (1 ≤ g)) (RT.ok (AV.sc false (Value.bool (decide (g ≤ 1000)))))
                              (RT.ok (AV.sc true (Value.bool false))))
                            (RT.ok (AV.sc true (Value.bool false))))
                          (RT.ok (AV.sc true (Value.bool false))))
                        (RT.ok (AV.sc true (Value.bool false))))
                      (RT.ok (AV.sc true (Value.bool false))))
                    (RT.ok (AV.sc true (Value.bool false))))
                  (RT.ok (AV.sc true (Value.bool false))))
                (RT.ok (AV.sc true (Value.bool false))))
              (RT.ok (AV.sc true (Value.bool false))))
            (RT.ok (AV.sc true (Value.bool false))))
          (RT.ok (AV.sc true (Value.bool false))))
        (RT.ok (AV.sc true (Value.bool false))))
      (RT.ok (AV.sc true (Value.bool false))) := by kernel_rfl
theorem lnk_tree (a b c d e f g o : Int) : treeF (evF Tryz.prog (gam (lftG Tryz.prog)) (lam ([])) 100 23) [.agg [ik a, ik b, ik c, ik d, ik e, ik f, ik g, ik o], ik 1] =
    RT.br (!lcfB a b c d e f g)
      (RT.ok
        (AV.tup
          [AV.agg
              [AV.sc true (Value.int IntKind.i64 0), AV.sc true (Value.int IntKind.i64 0),
                AV.sc true (Value.int IntKind.i64 0), AV.sc true (Value.int IntKind.i64 0),
                AV.sc true (Value.slice none 0 0), AV.sc true (Value.int IntKind.i64 0),
                AV.sc true (Value.int IntKind.i64 0), AV.sc true (Value.int IntKind.i64 0),
                AV.sc true (Value.int IntKind.i64 0), AV.sc true (Value.int IntKind.i64 0),
                AV.sc true (Value.int IntKind.i64 0), AV.sc true (Value.int IntKind.i64 0),
                AV.sc true (Value.int IntKind.i64 0), AV.sc true (Value.int IntKind.i64 0),
                AV.sc true (Value.int IntKind.i64 0), AV.sc true (Value.int IntKind.i64 0),
                AV.sc true (Value.slice none 0 0), AV.sc true (Value.int IntKind.i64 0),
                AV.sc true (Value.int IntKind.i64 0), AV.sc true (Value.int IntKind.i64 0),
                AV.sc true (Value.int IntKind.i64 0), AV.sc true (Value.int IntKind.i64 0),
                AV.sc true (Value.int IntKind.i64 0)],
            AV.sc true (Value.int IntKind.i64 190)]))
      (RT.br true
        (RT.br false
          (RT.ok
            (AV.tup
              [AV.agg
                  [AV.sc true (Value.int IntKind.i64 0), AV.sc true (Value.int IntKind.i64 0),
                    AV.sc true (Value.int IntKind.i64 0), AV.sc true (Value.int IntKind.i64 0),
                    AV.sc true (Value.slice none 0 0), AV.sc true (Value.int IntKind.i64 0),
                    AV.sc true (Value.int IntKind.i64 0), AV.sc true (Value.int IntKind.i64 0),
                    AV.sc true (Value.int IntKind.i64 0), AV.sc true (Value.int IntKind.i64 0),
                    AV.sc true (Value.int IntKind.i64 0), AV.sc true (Value.int IntKind.i64 0),
                    AV.sc true (Value.int IntKind.i64 0), AV.sc true (Value.int IntKind.i64 0),
                    AV.sc true (Value.int IntKind.i64 0), AV.sc true (Value.int IntKind.i64 0),
                    AV.sc true (Value.slice none 0 0), AV.sc true (Value.int IntKind.i64 0),
                    AV.sc true (Value.int IntKind.i64 0), AV.sc true (Value.int IntKind.i64 0),
                    AV.sc true (Value.int IntKind.i64 0), AV.sc true (Value.int IntKind.i64 0),
                    AV.sc true (Value.int IntKind.i64 0)],
                AV.sc true (Value.int IntKind.i64 190)]))
          (RT.br true
            (RT.br true
              (RT.br true
                (RT.br true
                  (RT.br true
                    (RT.br true
                      (RT.br true
                        (RT.br true
                          (RT.br true
                            (RT.br true
                              (RT.br true
                                (RT.br true
                                  (RT.br true
                                    (RT.br true
                                      (RT.br true
                                        (RT.br true
                                          (RT.br (!lcfB a b c d e f g)
                                            (RT.ok
                                              (AV.tup
                                                [AV.agg
                                                    [AV.sc true (Value.int IntKind.i64 0),
                                                      AV.sc true (Value.int IntKind.i64 0),
                                                      AV.sc true (Value.int IntKind.i64 0),
                                                      AV.sc true (Value.int IntKind.i64 0),
                                                      AV.sc true (Value.slice none 0 0),
                                                      AV.sc true (Value.int IntKind.i64 0),
                                                      AV.sc true (Value.int IntKind.i64 0),
                                                      AV.sc true (Value.int IntKind.i64 0),
                                                      AV.sc true (Value.int IntKind.i64 0),
                                                      AV.sc true (Value.int IntKind.i64 0),
                                                      AV.sc true (Value.int IntKind.i64 0),
                                                      AV.sc true (Value.int IntKind.i64 0),
                                                      AV.sc true (Value.int IntKind.i64 0),
                                                      AV.sc true (Value.int IntKind.i64 0),
                                                      AV.sc true (Value.int IntKind.i64 0),
                                                      AV.sc true (Value.int IntKind.i64 0),
                                                      AV.sc true (Value.slice none 0 0),
                                                      AV.sc true (Value.int IntKind.i64 0),
                                                      AV.sc true (Value.int IntKind.i64 0),
                                                      AV.sc true (Value.int IntKind.i64 0),
                                                      AV.sc true (Value.int IntKind.i64 0),
                                                      AV.sc true (Value.int IntKind.i64 0),
                                                      AV.sc true (Value.int IntKind.i64 0)],
                                                  AV.sc true (Value.int IntKind.i64 190)]))
                                            (RT.br true
                                              (RT.br true
                                                (RT.br true
                                                  (RT.br true
                                                    (RT.br true
                                                      (RT.br true
                                                        (RT.br true
                                                          (RT.br true
                                                            (RT.br (decide (1 ≤ o))
                                                              (RT.br (!decide (o ≤ 4294967294))
                                                                (RT.ok
                                                                  (AV.tup
                                                                    [AV.agg
                                                                        [AV.sc true (Value.int IntKind.i64 0),
                                                                          AV.sc true (Value.int IntKind.i64 0),
                                                                          AV.sc true (Value.int IntKind.i64 0),
                                                                          AV.sc true (Value.int IntKind.i64 0),
                                                                          AV.sc true (Value.slice none 0 0),
                                                                          AV.sc true (Value.int IntKind.i64 0),
                                                                          AV.sc true (Value.int IntKind.i64 0),
                                                                          AV.sc true (Value.int IntKind.i64 0),
                                                                          AV.sc true (Value.int IntKind.i64 0),
                                                                          AV.sc true (Value.int IntKind.i64 0),
                                                                          AV.sc true (Value.int IntKind.i64 0),
                                                                          AV.sc true (Value.int IntKind.i64 0),
                                                                          AV.sc true (Value.int IntKind.i64 0),
                                                                          AV.sc true (Value.int IntKind.i64 0),
                                                                          AV.sc true (Value.int IntKind.i64 0),
                                                                          AV.sc true (Value.int IntKind.i64 0),
                                                                          AV.sc true (Value.slice none 0 0),
                                                                          AV.sc true (Value.int IntKind.i64 0),
                                                                          AV.sc true (Value.int IntKind.i64 0),
                                                                          AV.sc true (Value.int IntKind.i64 0),
                                                                          AV.sc true (Value.int IntKind.i64 0),
                                                                          AV.sc true (Value.int IntKind.i64 0),
                                                                          AV.sc true (Value.int IntKind.i64 0)],
                                                                      AV.sc true (Value.int IntKind.i64 190)]))
                                                                (RT.ok
                                                                  (AV.tup
                                                                    [AV.agg
                                                                        [AV.sc true (Value.int IntKind.i64 1),
                                                                          AV.sc true (Value.int IntKind.i64 0),
                                                                          AV.sc true (Value.int IntKind.i64 0),
                                                                          AV.sc true (Value.int IntKind.i64 0),
                                                                          AV.sl true
                                                                            [Sh.int IntKind.i64, Sh.sl [Sh.int IntKind.u8]]
                                                                            (D.app
                                                                              (D.app (D.l [])
                                                                                (D.l
                                                                                  [D.t
                                                                                      [D.ki 1,
                                                                                        D.kl
                                                                                          [D.t
                                                                                              [D.i
                                                                                                  (IntKind.wrap IntKind.u8
                                                                                                    (Int.fdiv
                                                                                                      (IntKind.wrap
                                                                                                        IntKind.u64 a)
                                                                                                      256))],
                                                                                            D.t
                                                                                              [D.i
                                                                                                  (IntKind.wrap IntKind.u8
                                                                                                    (Int.fdiv
                                                                                                      (IntKind.wrap
                                                                                                        IntKind.u64 a)
                                                                                                      1))]]]]))
                                                                              (D.l
                                                                                [D.t
                                                                                    [D.ki 5,
                                                                                      D.kl
                                                                                        [D.t [D.i 0], D.t [D.i 0],
                                                                                          D.t [D.i 0], D.t [D.i 1]]]]))
                                                                            none,
                                                                          AV.sc true (Value.int IntKind.i64 0),
                                                                          AV.sc true (Value.int IntKind.i64 0),
                                                                          AV.sc true (Value.int IntKind.i64 0),
                                                                          AV.sc false (Value.int IntKind.i64 1),
                                                                          AV.sc true (Value.int IntKind.i64 0),
                                                                          AV.sc true (Value.int IntKind.i64 1492),
                                                                          AV.sc true (Value.int IntKind.i64 0),
                                                                          AV.sc true (Value.int IntKind.i64 0),
                                                                          AV.sc true (Value.int IntKind.i64 0),
                                                                          AV.sc true (Value.int IntKind.i64 0),
                                                                          AV.sc true (Value.int IntKind.i64 0),
                                                                          AV.sc true (Value.slice none 0 0),
                                                                          AV.sc true (Value.int IntKind.i64 0),
                                                                          AV.sc true (Value.int IntKind.i64 0),
                                                                          AV.sc true (Value.int IntKind.i64 0),
                                                                          AV.sc true (Value.int IntKind.i64 0),
                                                                          AV.sc true (Value.int IntKind.i64 0),
                                                                          AV.sc true (Value.int IntKind.i64 0)],
                                                                      AV.sc true (Value.int IntKind.i64 0)])))
                                                              (RT.ok
                                                                (AV.tup
                                                                  [AV.agg
                                                                      [AV.sc true (Value.int IntKind.i64 0),
                                                                        AV.sc true (Value.int IntKind.i64 0),
                                                                        AV.sc true (Value.int IntKind.i64 0),
                                                                        AV.sc true (Value.int IntKind.i64 0),
                                                                        AV.sc true (Value.slice none 0 0),
                                                                        AV.sc true (Value.int IntKind.i64 0),
                                                                        AV.sc true (Value.int IntKind.i64 0),
                                                                        AV.sc true (Value.int IntKind.i64 0),
                                                                        AV.sc true (Value.int IntKind.i64 0),
                                                                        AV.sc true (Value.int IntKind.i64 0),
                                                                        AV.sc true (Value.int IntKind.i64 0),
                                                                        AV.sc true (Value.int IntKind.i64 0),
                                                                        AV.sc true (Value.int IntKind.i64 0),
                                                                        AV.sc true (Value.int IntKind.i64 0),
                                                                        AV.sc true (Value.int IntKind.i64 0),
                                                                        AV.sc true (Value.int IntKind.i64 0),
                                                                        AV.sc true (Value.slice none 0 0),
                                                                        AV.sc true (Value.int IntKind.i64 0),
                                                                        AV.sc true (Value.int IntKind.i64 0),
                                                                        AV.sc true (Value.int IntKind.i64 0),
                                                                        AV.sc true (Value.int IntKind.i64 0),
                                                                        AV.sc true (Value.int IntKind.i64 0),
                                                                        AV.sc true (Value.int IntKind.i64 0)],
                                                                    AV.sc true (Value.int IntKind.i64 190)])))
                                                            (RT.bad 26))
                                                          (RT.bad 26))
                                                        (RT.bad 26))
                                                      (RT.bad 26))
                                                    (RT.bad 26))
                                                  (RT.bad 26))
                                                (RT.bad 26))
                                              (RT.bad 26)))
                                          (RT.bad 26))
                                        (RT.bad 26))
                                      (RT.bad 26))
                                    (RT.bad 26))
                                  (RT.bad 26))
                                (RT.bad 26))
                              (RT.bad 26))
                            (RT.bad 26))
                          (RT.bad 26))
                        (RT.bad 26))
                      (RT.bad 26))
                    (RT.bad 26))
                  (RT.bad 26))
                (RT.bad 26))
              (RT.bad 26))
            (RT.bad 26)))
        (RT.ok
          (AV.tup
            [AV.agg
                [AV.sc true (Value.int IntKind.i64 0), AV.sc true (Value.int IntKind.i64 0),
                  AV.sc true (Value.int IntKind.i64 0), AV.sc true (Value.int IntKind.i64 0),
                  AV.sc true (Value.slice none 0 0), AV.sc true (Value.int IntKind.i64 0),
                  AV.sc true (Value.int IntKind.i64 0), AV.sc true (Value.int IntKind.i64 0),
                  AV.sc true (Value.int IntKind.i64 0), AV.sc true (Value.int IntKind.i64 0),
                  AV.sc true (Value.int IntKind.i64 0), AV.sc true (Value.int IntKind.i64 0),
                  AV.sc true (Value.int IntKind.i64 0), AV.sc true (Value.int IntKind.i64 0),
                  AV.sc true (Value.int IntKind.i64 0), AV.sc true (Value.int IntKind.i64 0),
                  AV.sc true (Value.slice none 0 0), AV.sc true (Value.int IntKind.i64 0),
                  AV.sc true (Value.int IntKind.i64 0), AV.sc true (Value.int IntKind.i64 0),
                  AV.sc true (Value.int IntKind.i64 0), AV.sc true (Value.int IntKind.i64 0),
                  AV.sc true (Value.int IntKind.i64 0)],
              AV.sc true (Value.int IntKind.i64 190)]))) := by kernel_rfl
theorem knd_tree (a b c d e f : Int) : treeF (evF Tryz.prog (gam ([])) (lam ([])) 100 26) [.agg [.sc false (.int .u8 a), .sc false (.int .u8 b), .sc false (.int .u8 c), .sc false (.int .u8 d), .sc false (.int .u8 e), .sc false (.int .u8 f)]] =
    RT.br
      (a == 0 &&
        (bothB (false && true, b == 0)
            (bothB (false && true, c == 0)
              (bothB (false && true, d == 0)
                (bothB (false && true, e == 0) (bothB (false && true, f == 0) (true, true)))))).2)
      (RT.ok (AV.sc true (Value.int IntKind.i64 1)))
      (RT.br
        (a == 255 &&
          (bothB (false && true, b == 255)
              (bothB (false && true, c == 255)
                (bothB (false && true, d == 255)
                  (bothB (false && true, e == 255) (bothB (false && true, f == 255) (true, true)))))).2)
        (RT.ok (AV.sc true (Value.int IntKind.i64 2)))
        (RT.br
          (IntKind.wrap IntKind.u8
              (↑(BitVec.toNat (BitVec.ofInt (IntKind.bits IntKind.u8) a &&& BitVec.ofInt (IntKind.bits IntKind.u8) 1)) :
                Int) ==
            1)
          (RT.ok (AV.sc true (Value.int IntKind.i64 3))) (RT.ok (AV.sc true (Value.int IntKind.i64 4))))) := by kernel_rfl
theorem bkt_tree (a b : Int) : treeF (evF Tryz.prog (gam ([])) (lam ([])) 100 59) [.agg [ik a, ik b]] =
    RT.br (decide (0 ≤ a))
      (RT.br (decide (a ≤ 1048576))
        (RT.br (decide (1 ≤ b))
          (RT.br (decide (b ≤ 1048576)) (RT.ok (AV.sc true (Value.int IntKind.i64 0)))
            (RT.ok (AV.sc true (Value.int IntKind.i64 100))))
          (RT.ok (AV.sc true (Value.int IntKind.i64 100))))
        (RT.ok (AV.sc true (Value.int IntKind.i64 100))))
      (RT.ok (AV.sc true (Value.int IntKind.i64 100))) := by kernel_rfl
theorem cki_tree (s : D) (t : Int) : treeF (evF Tryz.prog (gam ([])) (lam ([])) 100 24) [.agg [.sl false [.int .u8] s none, ik t]] =
    RT.br (decide ((↑(D.len s) : Int) < 1)) (RT.ok (AV.sc true (Value.int IntKind.i64 90)))
      (RT.br (decide (64 < (↑(D.len s) : Int))) (RT.ok (AV.sc true (Value.int IntKind.i64 90)))
        (RT.br (decide (t < 1)) (RT.ok (AV.sc true (Value.int IntKind.i64 90)))
          (RT.br (decide (1099511627776 < t)) (RT.ok (AV.sc true (Value.int IntKind.i64 90)))
            (RT.ok (AV.sc true (Value.int IntKind.i64 0)))))) := by kernel_rfl
theorem lft_soundF : SoundF Tryz.prog 103 (pureS Tryz.prog 103 FLft) := by
  refine pure_in mixed (gs := []) (ls := []) trivial trivial _ 100 fun args K ho H => ?_
  unfold FLft at H
  split at H
  · rename_i a b c d e f g
    rw [show ([.agg [.sc false (.int .i64 a), .sc false (.int .i64 b), .sc false (.int .i64 c), .sc false (.int .i64 d), .sc false (.int .i64 e), .sc false (.int .i64 f), .sc false (.int .i64 g)]] : List AV) = [.agg [ik a, ik b, ik c, ik d, ik e, ik f, ik g]] from rfl, lft_tree]
    have no : ¬ (128 ≤ a ∧ a ≤ 1492 ∧ 1 ≤ b ∧ b ≤ 1000 ∧ 1 ≤ c ∧ c ≤ 1000 ∧ 0 ≤ d ∧ d ≤ 1000 ∧ 1 ≤ e ∧ e ≤ 1048576 ∧ 0 ≤ f ∧ f ≤ 1048576 ∧ 1 ≤ g ∧ g ≤ 1000) → ∀ kn, ∃ y, Le (.sc kn (.bool false)) y ∧ K y := fun h kn => ⟨_, le_bool (decide_eq_false h).symm, H⟩
    refine ⟨fun h1 => ⟨fun h2 => ⟨fun h3 => ⟨fun h4 => ⟨fun h5 => ⟨fun h6 => ⟨fun h7 => ⟨fun h8 => ⟨fun h9 => ⟨fun h10 => ⟨fun h11 => ⟨fun h12 => ⟨fun h13 => ?_, fun h => no ?_ _⟩, fun h => no ?_ _⟩, fun h => no ?_ _⟩, fun h => no ?_ _⟩, fun h => no ?_ _⟩, fun h => no ?_ _⟩, fun h => no ?_ _⟩, fun h => no ?_ _⟩, fun h => no ?_ _⟩, fun h => no ?_ _⟩, fun h => no ?_ _⟩, fun h => no ?_ _⟩, fun h => no ?_ _⟩
    rotate_left
    all_goals try (have := of_decide_eq_false h; omega)
    refine ⟨_, le_bool ?_, H⟩
    have h1 := of_decide_eq_true h1; have h2 := of_decide_eq_true h2; have h3 := of_decide_eq_true h3; have h4 := of_decide_eq_true h4; have h5 := of_decide_eq_true h5; have h6 := of_decide_eq_true h6; have h7 := of_decide_eq_true h7; have h8 := of_decide_eq_true h8; have h9 := of_decide_eq_true h9; have h10 := of_decide_eq_true h10; have h11 := of_decide_eq_true h11; have h12 := of_decide_eq_true h12; have h13 := of_decide_eq_true h13
    unfold lcfB
    by_cases hg : g ≤ 1000
    · rw [decide_eq_true hg, decide_eq_true (by omega)]
    · rw [decide_eq_false hg, decide_eq_false (by omega)]
  · exact H.elim
theorem bck_soundF : SoundF Tryz.prog 59 (pureS Tryz.prog 59 FBck) := by
  refine pure_in mixed (gs := []) (ls := []) trivial trivial _ 100 fun args K ho H => ?_
  unfold FBck at H
  split at H
  · rename_i a b
    rw [show ([.agg [.sc false (.int .i64 a), .sc false (.int .i64 b)]] : List AV) = [.agg [ik a, ik b]] from rfl, bkt_tree]
    have no : ¬ (0 ≤ a ∧ a ≤ 1048576 ∧ 1 ≤ b ∧ b ≤ 1048576) → ∀ kn, ∃ y, Le (.sc kn (.int .i64 100)) y ∧ K y := fun h kn => ⟨_, le_int (by unfold bkE rateB; rw [decide_eq_false h]; rfl), H⟩
    refine ⟨fun h1 => ⟨fun h2 => ⟨fun h3 => ⟨fun h4 => ?_, fun h => no ?_ _⟩, fun h => no ?_ _⟩, fun h => no ?_ _⟩, fun h => no ?_ _⟩
    rotate_left
    all_goals try (have := of_decide_eq_false h; omega)
    have h1 := of_decide_eq_true h1; have h2 := of_decide_eq_true h2; have h3 := of_decide_eq_true h3; have h4 := of_decide_eq_true h4
    exact ⟨_, le_int (by unfold bkE rateB; rw [decide_eq_true ⟨h1, h2, h3, h4⟩]; rfl), H⟩
  · exact H.elim
theorem cki_soundF : SoundF Tryz.prog 24 (pureS Tryz.prog 24 FCki) := by
  refine pure_in mixed (gs := []) (ls := []) trivial trivial _ 100 fun args K ho H => ?_
  unfold FCki at H
  split at H
  · rename_i s t
    rw [show ([.agg [.sl false [.int .u8] s none, .sc false (.int .i64 t)]] : List AV) = [.agg [.sl false [.int .u8] s none, ik t]] from rfl, cki_tree]
    have no : ¬ (1 ≤ s.len ∧ s.len ≤ 64 ∧ 1 ≤ t ∧ t ≤ 1099511627776) → ∀ kn, ∃ y, Le (.sc kn (.int .i64 90)) y ∧ K y := fun h kn => ⟨_, le_int (by unfold ckiE; rw [decide_eq_false h]; rfl), H⟩
    refine ⟨fun h => no ?_ _, fun h1 => ⟨fun h => no ?_ _, fun h2 => ⟨fun h => no ?_ _, fun h3 => ⟨fun h => no ?_ _, fun h4 => ?_⟩⟩⟩⟩
    · have := of_decide_eq_true h; omega
    · have := of_decide_eq_true h; omega
    · have := of_decide_eq_true h; omega
    · have := of_decide_eq_true h; omega
    have h1 := of_decide_eq_false h1; have h2 := of_decide_eq_false h2; have h3 := of_decide_eq_false h3; have h4 := of_decide_eq_false h4
    exact ⟨_, le_int (by unfold ckiE; rw [decide_eq_true (by omega)]; rfl), H⟩
  · exact H.elim
theorem knd_soundF : SoundF Tryz.prog 26 (pureS Tryz.prog 26 FKnd) := by
  refine pure_in mixed (gs := []) (ls := []) trivial trivial _ 100 fun args K ho H => ?_
  unfold FKnd at H
  split at H
  · rename_i a b c d e f
    rw [knd_tree]
    have e1 : ∀ n : Int, (a == n && (bothB (false && true, b == n) (bothB (false && true, c == n) (bothB (false && true, d == n) (bothB (false && true, e == n) (bothB (false && true, f == n) (true, true)))))).2) = allI n a b c d e f := fun n => by
      unfold allI bothB; simp
    rw [e1, e1]
    refine ⟨fun h => ⟨_, le_int ?_, H⟩, fun h1 => ⟨fun h => ⟨_, le_int ?_, H⟩, fun h2 => ⟨fun h => ⟨_, le_int ?_, H⟩, fun h => ⟨_, le_int ?_, H⟩⟩⟩⟩
    · unfold knE; rw [h]; rfl
    · unfold knE; rw [h1, h]; rfl
    · unfold knE; rw [h1, h2]; simp only [cond_false]; rw [show (IntKind.wrap IntKind.u8 ((BitVec.ofInt 8 a &&& BitVec.ofInt 8 1).toNat : Int) == 1) = true from h]; rfl
    · unfold knE; rw [h1, h2]; simp only [cond_false]; rw [show (IntKind.wrap IntKind.u8 ((BitVec.ofInt 8 a &&& BitVec.ofInt 8 1).toNat : Int) == 1) = false from h]; rfl
  · exact H.elim
end
end Go.Proofs.YtomblhnchdokmaaGreatDoor

namespace Go.Proofs.YtomblhnchdokmaaGreatDoor
set_option linter.unusedSimpArgs false
set_option linter.unusedVariables false
open Go.RowKit
set_option maxRecDepth 100000
noncomputable section
-- NATLE
-- DEFS
def bckG (P : Program) : List (FuncId × Spec) := [(59, pureS P 59 FBck)]
def FBkn : List AV → RT AV
  | [.agg [.sc false (.int .i64 a), .sc false (.int .i64 b)], .agg [.sc false (.int .i64 c), .sc false (.int .i64 d)]] => .br (rateB a b && rateB c d) (.ok (.tup [.ea [], ik 0])) (.ok (.tup [.sc true (.pointer none), ik 100]))
  | _ => .bad 668
-- END
theorem lftG_ok : GamL Tryz.prog (lftG Tryz.prog) := ⟨lft_soundF, trivial⟩
theorem relL_any {E : Env} : ∀ (l : List AV) (vs : List Value), RelL E l vs → RelL E (List.replicate l.length .any) vs
  | [], _, h => h
  | _ :: l, _, ⟨v, vs', h1, _, h3⟩ => ⟨v, vs', h1, trivial, relL_any l vs' h3⟩
theorem le_anys {l : List AV} {n : Nat} (h : l.length = n) : Le (.agg l) (.agg (List.replicate n .any)) := by
  subst h
  exact le_agg fun E vs hv => relL_any l vs hv
theorem lnk_soundF : SoundF Tryz.prog 23 (pureS Tryz.prog 23 FLnw) := by
  refine pure_in mixed lftG_ok (ls := []) trivial _ 100 fun args K ho H => ?_
  unfold FLnw at H
  split at H
  · rename_i a b c d e f g o
    rw [show ([.agg [.sc false (.int .i64 a), .sc false (.int .i64 b), .sc false (.int .i64 c), .sc false (.int .i64 d), .sc false (.int .i64 e), .sc false (.int .i64 f), .sc false (.int .i64 g), .sc false (.int .i64 o)], .sc false (.int .i64 1)] : List AV) = [.agg [ik a, ik b, ik c, ik d, ik e, ik f, ik g, ik o], ik 1] from rfl, lnk_tree]
    have out : ∀ {l : List AV} {kn : Bool} {q : Int}, l.length = 23 → lnE a b c d e f g o = q → ∃ y, Le (.tup [.agg l, .sc kn (.int .i64 q)]) y ∧ K y := fun hl hq => ⟨_, le_tup (leL_cons (le_anys hl) (leL_cons (le_int hq.symm) leL_nil)), H⟩
    refine ⟨fun h => out rfl ?_, fun h0 => ?_⟩
    · rw [Bool.not_eq_true'] at h; unfold lnE; rw [h]; rfl
    repeat (first | refine ⟨fun h => absurd h (by decide), fun _ => ?_⟩ | refine ⟨fun _ => ?_, fun h => absurd h (by decide)⟩)
    refine ⟨fun h => out rfl ?_, fun _ => ?_⟩
    · rw [Bool.not_eq_true'] at h; unfold lnE; rw [h]; rfl
    repeat (first | refine ⟨fun h => absurd h (by decide), fun _ => ?_⟩ | refine ⟨fun _ => ?_, fun h => absurd h (by decide)⟩)
    rw [Bool.not_eq_false'] at h0
    refine ⟨fun h1 => ⟨fun h2 => out rfl ?_, fun h2 => out rfl ?_⟩, fun h1 => out rfl ?_⟩
    · rw [Bool.not_eq_true'] at h2
      have := of_decide_eq_false h2
      unfold lnE; rw [decide_eq_false (by omega), Bool.and_false]; rfl
    · rw [Bool.not_eq_false'] at h2
      have h1 := of_decide_eq_true h1
      have h2 := of_decide_eq_true h2
      unfold lnE; rw [h0, decide_eq_true ⟨h1, h2⟩]; rfl
    · have := of_decide_eq_false h1
      unfold lnE; rw [decide_eq_false (by omega), Bool.and_false]; rfl
  · exact H.elim
theorem bckG_ok : GamL Tryz.prog (bckG Tryz.prog) := ⟨bck_soundF, trivial⟩
theorem bkn_tree (a b c d : Int) : treeE (evF Tryz.prog (gam (bckG Tryz.prog)) (lam []) 100 20) [.agg [ik a, ik b], .agg [ik c, ik d]] =
    RT.br (bkE a b != 0) (RT.ok (AV.tup [AV.sc true (Value.pointer none), AV.sc true (Value.int IntKind.i64 100)]))
      (RT.br (bkE c d != 0) (RT.ok (AV.tup [AV.sc true (Value.pointer none), AV.sc true (Value.int IntKind.i64 100)]))
        (RT.all
          (RT.br (bkE a b != 0) (RT.ok (AV.tup [AV.ea [], AV.sc true (Value.int IntKind.i64 0)]))
            (RT.ok (AV.tup [AV.ea [], AV.sc true (Value.int IntKind.i64 0)])))
          (RT.br (bkE a b != 0) (RT.ok (AV.tup [AV.ea [], AV.sc true (Value.int IntKind.i64 0)]))
            (RT.ok (AV.tup [AV.ea [], AV.sc true (Value.int IntKind.i64 0)]))))) := by kernel_rfl
theorem bkn_soundF : SoundF Tryz.prog 20 (pureS Tryz.prog 20 FBkn) := by
  refine pureE_in mixed bckG_ok (ls := []) trivial _ 100 fun args K ho H => ?_
  unfold FBkn at H
  split at H
  · rename_i a b c d
    rw [show ([.agg [.sc false (.int .i64 a), .sc false (.int .i64 b)], .agg [.sc false (.int .i64 c), .sc false (.int .i64 d)]] : List AV) = [.agg [ik a, ik b], .agg [ik c, ik d]] from rfl, bkn_tree]
    have bk : ∀ x y, (bkE x y != 0) = !rateB x y := fun x y => by unfold bkE; cases rateB x y <;> rfl
    rw [bk, bk]
    have no : (rateB a b && rateB c d) = false → ∀ {k1 k2 : Bool}, ∃ y, Le (.tup [.sc k1 (.pointer none), .sc k2 (.int .i64 100)]) y ∧ K y := fun h => ⟨.tup [.sc true (.pointer none), ik 100], le_tup (leL_cons (fun _ _ h => h) (leL_cons (le_int rfl) leL_nil)), H.2 h⟩
    refine ⟨fun h => no ?_, fun h1 => ⟨fun h => no ?_, fun h2 => ?_⟩⟩
    · rw [Bool.not_eq_true'] at h; rw [h]; rfl
    · rw [Bool.not_eq_true'] at h; rw [h, Bool.and_false]
    rw [Bool.not_eq_false'] at h1 h2
    have yes : ∀ {k2 : Bool}, ∃ y, Le (.tup [.ea [], .sc k2 (.int .i64 0)]) y ∧ K y := ⟨.tup [.ea [], ik 0], le_tup (leL_cons (Le.refl _) (leL_cons (le_int rfl) leL_nil)), H.1 (by rw [h1, h2]; rfl)⟩
    exact ⟨⟨fun _ => yes, fun _ => yes⟩, ⟨fun _ => yes, fun _ => yes⟩⟩
  · exact H.elim
end
end Go.Proofs.YtomblhnchdokmaaGreatDoor

namespace Go.Proofs.YtomblhnchdokmaaGreatDoor
set_option linter.unusedSimpArgs false
set_option linter.unusedVariables false
open Go.RowKit
set_option maxRecDepth 100000
noncomputable section
-- DEFS
abbrev stS : List Sh := [.str]
abbrev byS : List Sh := [.int .u8]
def FClS : List AV → RT AV
  | [.sl false [.str] d none] => .ok (.sl false [.str] d none)
  | _ => .bad 670
def FClB : List AV → RT AV
  | [.sl false [.int .u8] d none] => .ok (.sl false [.int .u8] d none)
  | _ => .bad 671
-- END
theorem app_nil_len (d : D) : ((D.l []).app d).len = d.len := by
  have h0 : (D.l []).len = 0 := by simp [D.len, D.toL, D.raw]
  rw [app_len (by rw [h0, Nat.zero_add]; exact d.len_le), h0, Nat.zero_add]
theorem app_nil_get (d : D) (i : Nat) : ((D.l []).app d).get i = d.get i := by
  have h0 : (D.l []).len = 0 := by simp [D.len, D.toL, D.raw]
  rw [app_get (by rw [h0, Nat.zero_add]; exact d.len_le), if_neg (by omega), h0, Nat.sub_zero]
theorem le_app_nil {kn kn' : Bool} {es : List Sh} {d : D} {tip : Option (Nat × Nat)} : Le (.sl kn es ((D.l []).app d) tip) (.sl kn' es d none) :=
  le_sl (app_nil_len d) fun i _ => by rw [app_nil_get]; exact eqEl_refl _ _ _
theorem cls_tree (d : D) : treeF (evF Tryz.prog (gam []) (lam []) 100 29) [.sl false stS d none] =
    RT.br (decide (D.len d = 0))
      (RT.all (RT.ok (AV.sc true (Value.slice none 0 0))) (RT.ok (AV.sl false [Sh.str] (D.app (D.l []) d) none)))
      (RT.ok (AV.sl false [Sh.str] (D.app (D.l []) d) none)) := by kernel_rfl
theorem clb_tree (d : D) : treeF (evF Tryz.prog (gam []) (lam []) 100 30) [.sl false byS d none] =
    RT.br (decide (D.len d = 0))
      (RT.all (RT.ok (AV.sc true (Value.slice none 0 0))) (RT.ok (AV.sl false [Sh.int IntKind.u8] (D.app (D.l []) d) none)))
      (RT.ok (AV.sl false [Sh.int IntKind.u8] (D.app (D.l []) d) none)) := by kernel_rfl
theorem cls_soundF : SoundF Tryz.prog 29 (pureS Tryz.prog 29 FClS) := by
  refine pure_in mixed (gs := []) (ls := []) trivial trivial _ 100 fun args K ho H => ?_
  unfold FClS at H
  split at H
  · rename_i d
    rw [show ([.sl false [.str] d none] : List AV) = [.sl false stS d none] from rfl, cls_tree]
    exact ⟨fun hz => ⟨⟨_, le_nil (of_decide_eq_true hz), H⟩, ⟨_, le_app_nil, H⟩⟩, fun _ => ⟨_, le_app_nil, H⟩⟩
  · exact H.elim
theorem clb_soundF : SoundF Tryz.prog 30 (pureS Tryz.prog 30 FClB) := by
  refine pure_in mixed (gs := []) (ls := []) trivial trivial _ 100 fun args K ho H => ?_
  unfold FClB at H
  split at H
  · rename_i d
    rw [show ([.sl false [.int .u8] d none] : List AV) = [.sl false byS d none] from rfl, clb_tree]
    exact ⟨fun hz => ⟨⟨_, le_nil (of_decide_eq_true hz), H⟩, ⟨_, le_app_nil, H⟩⟩, fun _ => ⟨_, le_app_nil, H⟩⟩
  · exact H.elim
end
end Go.Proofs.YtomblhnchdokmaaGreatDoor
