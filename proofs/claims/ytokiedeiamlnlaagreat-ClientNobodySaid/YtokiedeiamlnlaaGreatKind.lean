/- octet.Kind: which kind of address it is. -/
import Derived.Test.YtokiedeiamlnlaaGreatProg
import Derived.Test.YtokiedeiamlnlaaGreatBase
namespace Go.Proofs.YtokiedeiamlnlaaGreat
set_option linter.unusedSimpArgs false
set_option linter.unusedVariables false
open Go.RowKit
set_option maxRecDepth 10000
abbrev macV (a b c d e f : UInt8) : Value := .agg #[bv a, bv b, bv c, bv d, bv e, bv f]
theorem run_eql_mac (w : World) (a b c d e f a1 b1 c1 d1 e1 f1 : Int) :
    (binOp .eql 23 (.agg #[.int .u8 a, .int .u8 b, .int .u8 c, .int .u8 d, .int .u8 e, .int .u8 f]) (.agg #[.int .u8 a1, .int .u8 b1, .int .u8 c1, .int .u8 d1, .int .u8 e1, .int .u8 f1])).run Tryz.prog w = .ok (.bool (a == a1 && (b == b1 && (c == c1 && (d == d1 && (e == e1 && f == f1)))))) w := by
  rw [run_eql_struct, run_equalIn_six w 9998 23 5 (by kernel_rfl) (by kernel_rfl) (by kernel_rfl)]
  rfl

/-- which kind of address it is -/
def kindN (a b c d e f : UInt8) : Int :=
  if a.toNat + b.toNat + c.toNat + d.toNat + e.toNat + f.toNat = 0 then 1
  else if a.toNat + b.toNat + c.toNat + d.toNat + e.toNat + f.toNat = 1530 then 2
  else if a.toNat % 2 = 1 then 3 else 4

theorem kind_any (a b c d e f : UInt8) (w : World) :
    Calls Tryz.prog 40 #[macV a b c d e f] w fun e' w' => e' = .returned (.int .i64 (kindN a b c d e f)) ∧ Below w.heap.size w w' := by
  have Hfin : Hid (kindN a b c d e f = if a.toNat + b.toNat + c.toNat + d.toNat + e.toNat + f.toNat = 0 then 1
    else if a.toNat + b.toNat + c.toNat + d.toNat + e.toNat + f.toNat = 1530 then 2 else if a.toNat % 2 = 1 then 3 else 4) := rfl
  have ha : a.toNat < 256 := u8_lt a
  have hb : b.toNat < 256 := u8_lt b
  have hc : c.toNat < 256 := u8_lt c
  have hd : d.toNat < 256 := u8_lt d
  have he : e.toNat < 256 := u8_lt e
  have hf : f.toNat < 256 := u8_lt f
  have Hand : Hid (bits .and .u8 (a.toNat : Int) 1 = ((a.toNat % 2 : Nat) : Int)) := by
    unfold Hid
    have h := bits_mask .u8 8 (by decide) wraps_u8 1 (by decide) (a.toNat : Int) (by omega) (by omega)
    rw [show ((2 : Int) ^ 1 - 1) = 1 by decide] at h
    rw [h]; simp
  generalize kindN a b c d e f = kk at *
  generalize hA : a.toNat = A at *
  generalize hB : b.toNat = B at *
  generalize hC : c.toNat = C at *
  generalize hD : d.toNat = D at *
  generalize hE : e.toNat = E at *
  generalize hF : f.toNat = F at *
  unfold macV bv
  rw [hA, hB, hC, hD, hE, hF]
  clear hA hB hC hD hE hF
  have hq := run_eql_mac
  have hand := Hand.out
  go_enter Tryz.func40, Tryz.ntmps40
  go_wp2
  refine wp_loop_rounds 7 ?_
  rw [rounds_succ]; go_wp2
  rw [rounds_succ]; go_wp2
  rw [rounds_succ]; go_wp2
  rw [rounds_succ]; go_wp2
  rw [rounds_succ]; go_wp2
  rw [rounds_succ]; go_wp2
  rw [rounds_succ]; go_wp2
  all_goals go_ret
  all_goals refine ⟨ret_eq (int_eq ?_), ((Below.refl _ _).alloc (Nat.le_refl _) _).alloc (by simp) _⟩
  all_goals rw [Hfin.out]
  all_goals simp only [beq_iff_eq, beq_eq_false_iff_ne] at *
  · rw [if_pos (by omega)]
  · rw [if_neg (by omega), if_pos (by omega)]
  · rw [if_neg (by omega), if_neg (by omega), if_pos (by omega)]
  · rw [if_neg (by omega), if_neg (by omega), if_neg (by omega)]
end Go.Proofs.YtokiedeiamlnlaaGreat
