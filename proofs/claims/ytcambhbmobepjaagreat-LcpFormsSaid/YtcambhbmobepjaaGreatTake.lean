/- octet.Equal, octet.Take. No condition. -/
import Derived.Test.YtcambhbmobepjaaGreatPut
import Derived.WalkLawsBesides
import Derived.WalkSpells
import Derived.Deep.QuietTactic
import Derived.BigQuiet
import Derived.IntWalk
namespace Go.Proofs.YtcambhbmobepjaaGreat
set_option linter.unusedSimpArgs false
set_option linter.unusedVariables false
open Go.RowKit
set_option maxRecDepth 10000

def xorAll (a b : List UInt8) : Nat → UInt8
  | 0 => 0
  | k + 1 => xorAll a b k ||| (a[k]?.getD 0 ^^^ b[k]?.getD 0)
theorem u8_or_zero (a b : UInt8) : a ||| b = 0 ↔ a = 0 ∧ b = 0 := by
  constructor
  · intro h
    constructor <;> (apply UInt8.toNat_inj.1; have := congrArg UInt8.toNat h; simp at this ⊢; simp [this])
  · rintro ⟨rfl, rfl⟩; rfl
theorem xorAll_zero (a b : List UInt8) : ∀ k, xorAll a b k = 0 ↔ ∀ i, i < k → a[i]?.getD 0 = b[i]?.getD 0
  | 0 => by simp [xorAll]
  | k + 1 => by
    simp only [xorAll]
    rw [u8_or_zero, xorAll_zero a b k, UInt8.xor_eq_zero_iff]
    constructor
    · rintro ⟨h1, h2⟩ i hi
      rcases Nat.lt_succ_iff_lt_or_eq.1 hi with h | rfl
      · exact h1 i h
      · exact h2
    · intro h
      exact ⟨fun i hi => h i (by omega), h k (by omega)⟩
theorem xorAll_eq (a b : List UInt8) (h : a.length = b.length) : (((xorAll a b a.length).toNat : Int) == 0) = (a == b) := by
  have h1 : ((xorAll a b a.length).toNat : Int) = 0 ↔ xorAll a b a.length = 0 := by
    rw [← UInt8.toNat_inj]; simp
  rw [Bool.eq_iff_iff]
  simp only [beq_iff_eq]
  rw [h1, xorAll_zero]
  constructor
  · intro hh
    apply List.ext_getElem h
    intro i h1 h2
    have := hh i h1
    simpa [h1, h2] using this
  · rintro rfl i _; rfl

def EqRel (w : World) (n : Nat) (l l' : List UInt8) (p i : Value) (wr : World) : Prop :=
  ∃ k : Nat, k ≤ n ∧ i = .int .i64 k ∧ p = .int .u8 (xorAll l l' k).toNat ∧ ∃ m, wr = w.drewN m

theorem EqRel.step {w : World} {n : Nat} {l l' : List UInt8} {k m : Nat} (h : k < n) :
    EqRel w n l l' (.int .u8 (bits .or .u8 ((xorAll l l' k).toNat : Int) (bits .xor .u8 ((l[k]?.getD 0).toNat : Int) ((l'[k]?.getD 0).toNat : Int)))) (.int .i64 ((k : Int) + 1)) (w.drewN m) :=
  ⟨k + 1, h, by simp, by rw [u8_xor_u, u8_or_u]; rfl, m, rfl⟩

theorem equal_same (w : World) (v v' : Value) (l l' : List UInt8) (hv : IsBytes w v l) (hv' : IsBytes w v' l') (hl : l.length = l'.length) (hpos : 0 < l.length) :
    Calls Tryz.prog 133 #[v, v'] w fun e w' => e = .returned (.bool (l == l')) ∧ ∃ n, w' = w.drewN n := by
  have hfin := xorAll_eq l l' hl
  rcases hv with ⟨rfl, rfl⟩ | ⟨x, cap, rfl, h1, h2, h3⟩
  · simp at hpos
  rcases hv' with ⟨rfl, rfl⟩ | ⟨x', cap', rfl, h1', h2', h3'⟩
  · simp at hl; simp [hl] at hpos
  rw [← hl]
  unfold maxLen at h2
  rw [← hl] at h3'
  generalize hn : l.length = n at *
  clear hn hl h1'
  have Hfin := Lib.hid hfin
  clear hfin
  go_enter Tryz.func133, Tryz.ntmps133
  go_wp2
  go_loopw [5, 14] (fun p i wr => EqRel w n l l' p i wr) (fun _ i _ => n - (intOf i).toNat)
  case atStart => exact ⟨0, Nat.zero_le _, rfl, rfl, 0, rfl⟩
  case round =>
    obtain ⟨k, hk, rfl, rfl, m, rfl⟩ := hrel
    by_cases hlt : k < n
    · have c1 := h3 k hlt
      have c2 := h3' k hlt
      go_wp2
      go_quiet (fail)
      go_wp2
      refine ⟨EqRel.step hlt, ?_⟩
      simp [intOf]; omega
    · go_wp2
      go_ret
      obtain rfl : k = n := by omega
      exact ⟨ret_eq (bool_eq Hfin.out), _, rfl⟩

theorem equal_any (w : World) (v v' : Value) (l l' : List UInt8) (hv : IsBytes w v l) (hv' : IsBytes w v' l') :
    Calls Tryz.prog 133 #[v, v'] w fun e w' => e = .returned (.bool (l == l')) ∧ ∃ n, w' = w.drewN n := by
  by_cases hl : l.length = l'.length
  · by_cases hpos : 0 < l.length
    · exact equal_same w v v' l l' hv hv' hl hpos
    · obtain rfl : l = [] := List.eq_nil_of_length_eq_zero (by omega)
      obtain rfl : l' = [] := List.eq_nil_of_length_eq_zero (by simpa using hl.symm)
      obtain ⟨a, cap, rfl, _, _⟩ := hv.shape
      obtain ⟨a', cap', rfl, _, _⟩ := hv'.shape
      clear hv hv' hl hpos
      go_enter Tryz.func133, Tryz.ntmps133
      go_wp2_with fail
      refine wp_loop_rounds 1 ?_; rw [rounds_succ]
      go_wp2
      go_ret
      exact ⟨rfl, 0, rfl⟩
  · have hd : (l == l') = false := by
      rw [beq_eq_false_iff_ne]; rintro rfl; exact hl rfl
    obtain ⟨a, cap, rfl, h1, h2⟩ := hv.shape
    obtain ⟨a', cap', rfl, h1', h2'⟩ := hv'.shape
    rw [hd]
    clear hd hv hv'
    have hne : ((l.length : Int) == (l'.length : Int)) = false := by rw [beq_eq_false_iff_ne]; omega
    generalize l.length = n at *
    generalize l'.length = n' at *
    go_enter Tryz.func133, Tryz.ntmps133
    go_wp2
    go_ret
    exact ⟨rfl, 0, rfl⟩
set_option maxRecDepth 10000
/-- the number that bytes are, the highest first -/
def valOf (l : List UInt8) : Nat := l.foldl (fun n b => 256 * n + b.toNat) 0
theorem valOf_snoc (l : List UInt8) (b : UInt8) : valOf (l ++ [b]) = 256 * valOf l + b.toNat := by simp [valOf]
theorem valOf_take (l : List UInt8) (k : Nat) (h : k < l.length) : valOf (l.take (k + 1)) = 256 * valOf (l.take k) + (l[k]?.getD 0).toNat := by
  rw [List.take_succ_eq_append_getElem h, valOf_snoc]; simp [h]
theorem valOf_lt (l : List UInt8) : ∀ k, k ≤ l.length → valOf (l.take k) < 256 ^ k
  | 0, _ => by simp [valOf]
  | k + 1, h => by
    rw [valOf_take l k (by omega)]
    have := valOf_lt l k (by omega)
    have := u8_lt (l[k]?.getD 0)
    rw [Nat.pow_succ]; omega
theorem pow256_le (k : Nat) (h : k ≤ 7) : 256 ^ k ≤ 72057594037927936 := Nat.le_trans (Nat.pow_le_pow_right (by decide) h) (by decide)

theorem u64_or_byte (q b : Nat) (hq : q < 72057594037927936) (hb : b < 256) : bits .or .u64 ((q : Int) * 256) (IntKind.u64.wrap (b : Int)) = ((256 * q + b : Nat) : Int) := by
  have hw : IntKind.u64.wrap (b : Int) = b := by
    have : IntKind.u64.wrap (b : Int) = (b : Int) % 18446744073709551616 := by simp [IntKind.wrap, IntKind.bits, IntKind.signed]
    rw [this]; omega
  rw [hw]
  have := u64_or_nat (q * 256) b (by omega) (by omega)
  rw [show ((q * 256 : Nat) : Int) = (q : Int) * 256 by simp] at this
  rw [this]
  congr 1
  rw [Nat.mul_comm q 256, show (256 : Nat) = 2 ^ 8 by rfl]
  exact (Nat.two_pow_add_eq_or_of_lt hb q).symm


theorem take_any (v : Value) (l : List UInt8) (s : Nat) (h1 : 1 ≤ s) (h8 : s ≤ 8) (hs : s ≤ l.length) (hlen : l.length ≤ 1000000) (w : World) (hv : IsBytes w v l) :
    Calls Tryz.prog 45 #[v, .int .i64 s] w fun e w' => ∃ v', e = .returned (.tuple #[.int .u64 (valOf (l.take s) : Nat), v', .bool true]) ∧ Below w.heap.size w w' ∧ w'.ownsRow w.heap.size 5 1 v' (l.length - s) ((l.drop s).map bv) := by
  have i1 : (1 : Int) ≤ s := by omega
  have i2 : (s : Int) ≤ 8 := by omega
  have i3 : ¬ l.length < s := by omega
  rcases hv with ⟨rfl, rfl⟩ | ⟨x, cap, rfl, h1', h2', h3'⟩
  · simp at hs; omega
  unfold maxLen at h2'
  have hown := Lib.hid (own_empty w w.heap.size (Nat.le_refl _) 5 1)
  by_cases hcap : cap = s
  · obtain rfl : l.length = s := by omega
    subst hcap
    have hsrc := Lib.hid ((src_drop_all (w := w) x l).alloc (.cells #[] 5))
    have hc4 : Hid ((0 + 0) * 1 ≤ 140737488355328) := by unfold Hid; decide
    have hc5 : Hid (w.heap.size ≤ (w.alloc (.cells #[] 5)).heap.size) := by rw [World.size_alloc]; exact Nat.le_succ _
    go_enter Tryz.func45, Tryz.ntmps45
    go_wp2
    go_loop [7, 8, 19] (fun p _ i => ∃ k : Nat, k ≤ l.length ∧ i = .int .i64 k ∧ p = .int .u64 (valOf (l.take k) : Nat)) (fun _ _ i => l.length - (intOf i).toNat)
    case atStart => exact ⟨0, by omega, rfl, rfl⟩
    case round =>
      obtain ⟨k, hk, rfl, rfl⟩ := hrel
      by_cases hlt : k < l.length
      · have c := h3' k (by omega)
        have hq := Nat.lt_of_lt_of_le (valOf_lt l k (by omega)) (pow256_le k (by omega))
        have hst := Lib.hid (valOf_take l k (by omega))
        generalize valOf (l.take k) = q at *
        go_wp2
        rw [u64_or_byte q _ hq (u8_lt _)]
        go_round
        case rel => exact ⟨k + 1, by omega, by go_num, by rw [hst.out]; try simp [hlt]⟩
        case measure => simp [intOf]; omega
      · obtain rfl : k = l.length := by omega
        go_wp2_with (at_builtin; go_must (refine wpList_append_from rfl _ _ _ rfl (w.heap.size) el_u8 rfl hown.out rfl hsrc.out hc4.out hc5.out ?_); intro v' w' ho hg hb)
        go_ret3
        exact ⟨_, rfl, ((Below.refl _ _).alloc (Nat.le_refl _) _).trans hb, by simpa using ho⟩
  · have hsrc := Lib.hid ((src_drop h3' s (cap - s)).alloc (.cells #[] 5))
    have hc4 : Hid ((0 + (l.length - s)) * 1 ≤ 140737488355328) := by unfold Hid; omega
    have hc5 : Hid (w.heap.size ≤ (w.alloc (.cells #[] 5)).heap.size) := by rw [World.size_alloc]; exact Nat.le_succ _
    go_enter Tryz.func45, Tryz.ntmps45
    go_wp2
    go_loop [7, 8, 19] (fun p _ i => ∃ k : Nat, k ≤ s ∧ i = .int .i64 k ∧ p = .int .u64 (valOf (l.take k) : Nat)) (fun _ _ i => s - (intOf i).toNat)
    case atStart => exact ⟨0, by omega, rfl, rfl⟩
    case round =>
      obtain ⟨k, hk, rfl, rfl⟩ := hrel
      by_cases hlt : k < s
      · have c := h3' k (by omega)
        have hq := Nat.lt_of_lt_of_le (valOf_lt l k (by omega)) (pow256_le k (by omega))
        have hst := Lib.hid (valOf_take l k (by omega))
        generalize valOf (l.take k) = q at *
        go_wp2
        rw [u64_or_byte q _ hq (u8_lt _)]
        go_round
        case rel => exact ⟨k + 1, by omega, by go_num, by rw [hst.out]; try simp [hlt]⟩
        case measure => simp [intOf]; omega
      · obtain rfl : k = s := by omega
        go_wp2_with (at_builtin; go_must (refine wpList_append_from rfl _ _ _ rfl (w.heap.size) el_u8 rfl hown.out rfl hsrc.out hc4.out hc5.out ?_); intro v' w' ho hg hb)
        go_ret3
        exact ⟨_, rfl, ((Below.refl _ _).alloc (Nat.le_refl _) _).trans hb, by simpa using ho⟩
theorem take_bad (v : Value) (l : List UInt8) (s : Int) (h : s < 1 ∨ 8 < s ∨ l.length < s) (w : World) (hv : IsBytes w v l) :
    Calls Tryz.prog 45 #[v, .int .i64 s] w fun e w' => e = .returned (.tuple #[.int .u64 0, .slice none 0 0, .bool false]) ∧ w' = w := by
  obtain ⟨a, cap, rfl, h1, h2⟩ := hv.shape
  clear hv
  generalize l.length = n at *
  by_cases a1 : 1 ≤ s
  · by_cases a2 : s ≤ 8
    · have a3 : (n : Int) < s := by omega
      clear h
      go_enter Tryz.func45, Tryz.ntmps45
      go_wp2
      go_ret3
      exact ⟨rfl, rfl⟩
    · clear h
      go_enter Tryz.func45, Tryz.ntmps45
      go_wp2
      go_ret3
      exact ⟨rfl, rfl⟩
  · clear h
    go_enter Tryz.func45, Tryz.ntmps45
    go_wp2
    go_ret3
    exact ⟨rfl, rfl⟩

end Go.Proofs.YtcambhbmobepjaaGreat
