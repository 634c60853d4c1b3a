/- conciergeref01.Put; octet.Take and conciergeref01.Take. -/
import Derived.Test.YtmbbcgfcallllaaDoorOct1
namespace Go.Proofs.YtmbbcgfcallllaaDoor
open Go.RowKit
set_option maxRecDepth 10000

/-- what lies in the row behind k rounds of the reference's Put: the last k bytes -/
def rputRow (n s k : Nat) : List UInt8 := (List.range s).map fun i => if s - k ≤ i then beByte n (s - 1 - i) else 0
theorem rputRow_zero (n s : Nat) : (rputRow n s 0).map bv = (madeCells #[.int .u8 0] (s * 1)).toList := by
  rw [Nat.mul_one, toList_madeCells_one]
  apply List.ext_getElem
  · simp [rputRow]
  · intro i h1 h2
    simp [rputRow] at h1 ⊢
    rw [if_neg (by omega)]; rfl
theorem rputRow_set (n s k : Nat) (h : k < s) : ((rputRow n s k).map bv).set (s - 1 - k) (bv (beByte n k)) = (rputRow n s (k + 1)).map bv := by
  apply List.ext_getElem
  · simp [rputRow]
  · intro i h1 h2
    simp [rputRow] at h1 h2
    simp only [rputRow, List.map_map, List.getElem_set, List.getElem_map, List.getElem_range, Function.comp]
    by_cases he : s - 1 - k = i
    · rw [if_pos he, if_pos (by omega), show s - 1 - i = k by omega]
    · rw [if_neg he]
      by_cases hk : s - k ≤ i
      · rw [if_pos hk, if_pos (by omega)]
      · rw [if_neg hk, if_neg (by omega)]
theorem rputRow_get (n s k : Nat) (h : k < s) : ((rputRow n s k).map bv)[s - 1 - k]? = some (bv 0) := by
  rw [List.getElem?_eq_getElem (by simp [rputRow]; omega)]
  simp [rputRow]
  rw [if_neg (by omega)]; rfl
theorem rputRow_full (n s : Nat) : rputRow n s s = be n s := by
  simp [rputRow, be]

def RPutRel (w : World) (n s : Nat) (p i : Value) (wr : World) : Prop :=
  ∃ k : Nat, k ≤ s ∧ i = .int .i64 k ∧ p = .int .u64 ((n / 256 ^ k : Nat) : Int) ∧ Below w.heap.size w wr ∧ wr.ownsRow w.heap.size 5 1 (.slice (some ⟨w.heap.size, 0, none⟩) s s) s ((rputRow n s k).map bv)

theorem RPutRel.step {w wr : World} {n s k : Nat} (hk : k < s) (hb : Below w.heap.size w wr) (ho : wr.ownsRow w.heap.size 5 1 (.slice (some ⟨w.heap.size, 0, none⟩) s s) s ((rputRow n s k).map bv)) :
    RPutRel w n s (.int .u64 (((n / 256 ^ k : Nat) : Int) / 256)) (.int .i64 ((k : Int) + 1)) (wr.setCell ⟨w.heap.size, s - 1 - k, none⟩ (.int .u8 (((n / 256 ^ k : Nat) : Int) % 256))) := by
  refine ⟨k + 1, hk, by simp, ?_, hb.setCell (Nat.le_refl _) _, ?_⟩
  · rw [Nat.pow_succ, ← Nat.div_div_eq_div_mul]; simp
  · have := own_set ho (s - 1 - k) (bv (beByte n k))
    rw [rputRow_set n s k hk] at this
    have e : ((n / 256 ^ k : Nat) : Int) % 256 = ((beByte n k).toNat : Int) := by
      rw [beByte, show (2 : Nat) ^ (8 * k) = 256 ^ k by rw [Nat.pow_mul]]
      simp
    rw [e]
    exact this

theorem rput_any (n : Nat) (hn : n < 18446744073709551616) (s : Nat) (h1 : 1 ≤ s) (h8 : s ≤ 8) (w : World) :
    Calls Tryd.prog 19 #[.int .u64 n, .int .i64 s] w fun e w' => ∃ v, e = .returned v ∧ Below w.heap.size w w' ∧ w'.ownsRow w.heap.size 5 1 v s ((be n s).map bv) := by
  have i1 : (1 : Int) ≤ s := by omega
  have i2 : (s : Int) ≤ 8 := by omega
  obtain ⟨w1, hmk, hown, hbel, hsz⟩ := run_make_own_full el_u8 w w.heap.size .i64 .i64 s (by omega) (by unfold maxLen; omega) (Nat.le_refl _)
  have Hown := Lib.hid hown
  have Hsz := Lib.hid hsz
  have Hbel := Lib.hid hbel
  clear hown hsz hbel
  go_enter Tryd.func19, Tryd.ntmps19
  go_wp2
  go_loopw [0, 6] (fun p i wr => RPutRel w n s p i wr) (fun _ i _ => s - (intOf i).toNat)
  case atStart => exact ⟨0, Nat.zero_le _, rfl, by simp, Hbel.out, by rw [rputRow_zero]; exact Hown.out⟩
  case round =>
    obtain ⟨k, hk, rfl, rfl, hb, ho⟩ := hrel
    by_cases hlt : k < s
    · have hc := own_cell ho _ _ (rputRow_get n s k hlt)
      have hf := own_frozen ho (s - 1 - k)
      have hq : n / 256 ^ k < 18446744073709551616 := Nat.lt_of_le_of_lt (Nat.div_le_self _ _) hn
      have hst := Lib.hid (RPutRel.step hlt hb ho)
      clear ho hb
      generalize n / 256 ^ k = q at *
      have e1 : ((s : Int) - 1 - k).toNat = s - 1 - k := by omega
      go_wp2
      exact ⟨hst.out, by simp [intOf]; omega⟩
    · obtain rfl : k = s := by omega
      rw [rputRow_full] at ho
      go_wp2
      go_ret
      exact ⟨_, rfl, hb, ho⟩

/-- the number that bytes are, the highest first -/
def valOf (l : List UInt8) : Nat := l.foldl (fun n b => 256 * n + b.toNat) 0
theorem valOf_snoc (l : List UInt8) (b : UInt8) : valOf (l ++ [b]) = 256 * valOf l + b.toNat := by simp [valOf]
theorem valOf_take (l : List UInt8) (k : Nat) (h : k < l.length) : valOf (l.take (k + 1)) = 256 * valOf (l.take k) + (l[k]?.getD 0).toNat := by
  rw [List.take_succ_eq_append_getElem h, valOf_snoc]; simp [h]
theorem valOf_lt (l : List UInt8) : ∀ k, k ≤ l.length → valOf (l.take k) < 256 ^ k
  | 0, _ => by simp [valOf]
  | k + 1, h => by
    rw [valOf_take l k (by omega)]
    have := valOf_lt l k (by omega)
    have := u8_lt (l[k]?.getD 0)
    rw [Nat.pow_succ]; omega
theorem pow256_le (k : Nat) (h : k ≤ 7) : 256 ^ k ≤ 72057594037927936 := Nat.le_trans (Nat.pow_le_pow_right (by decide) h) (by decide)

theorem u64_or_byte (q b : Nat) (hq : q < 72057594037927936) (hb : b < 256) : bits .or .u64 ((q : Int) * 256) (IntKind.u64.wrap (b : Int)) = ((256 * q + b : Nat) : Int) := by
  have hw : IntKind.u64.wrap (b : Int) = b := by
    have : IntKind.u64.wrap (b : Int) = (b : Int) % 18446744073709551616 := by simp [IntKind.wrap, IntKind.bits, IntKind.signed]
    rw [this]; omega
  rw [hw]
  have := u64_or_nat (q * 256) b (by omega) (by omega)
  rw [show ((q * 256 : Nat) : Int) = (q : Int) * 256 by simp] at this
  rw [this]
  congr 1
  rw [Nat.mul_comm q 256, show (256 : Nat) = 2 ^ 8 by rfl]
  exact (Nat.two_pow_add_eq_or_of_lt hb q).symm


theorem take_any (v : Value) (l : List UInt8) (s : Nat) (h1 : 1 ≤ s) (h8 : s ≤ 8) (hs : s ≤ l.length) (hlen : l.length ≤ 1000000) (w : World) (hv : IsBytes w v l) :
    Calls Tryd.prog 17 #[v, .int .i64 s] w fun e w' => ∃ v', e = .returned (.tuple #[.int .u64 (valOf (l.take s) : Nat), v', .bool true]) ∧ Below w.heap.size w w' ∧ w'.ownsRow w.heap.size 5 1 v' (l.length - s) ((l.drop s).map bv) := by
  have i1 : (1 : Int) ≤ s := by omega
  have i2 : (s : Int) ≤ 8 := by omega
  have i3 : ¬ l.length < s := by omega
  rcases hv with ⟨rfl, rfl⟩ | ⟨x, cap, rfl, h1', h2', h3'⟩
  · simp at hs; omega
  unfold maxLen at h2'
  have hown := Lib.hid (own_empty w w.heap.size (Nat.le_refl _) 5 1)
  by_cases hcap : cap = s
  · obtain rfl : l.length = s := by omega
    subst hcap
    have hsrc := Lib.hid ((src_drop_all (w := w) x l).alloc (.cells #[] 5))
    have hc4 : Hid ((0 + 0) * 1 ≤ 140737488355328) := by unfold Hid; decide
    have hc5 : Hid (w.heap.size ≤ (w.alloc (.cells #[] 5)).heap.size) := by rw [World.size_alloc]; exact Nat.le_succ _
    go_enter Tryd.func17, Tryd.ntmps17
    go_wp2
    go_loop [7, 8, 19] (fun p _ i => ∃ k : Nat, k ≤ l.length ∧ i = .int .i64 k ∧ p = .int .u64 (valOf (l.take k) : Nat)) (fun _ _ i => l.length - (intOf i).toNat)
    case atStart => exact ⟨0, by omega, rfl, rfl⟩
    case round =>
      obtain ⟨k, hk, rfl, rfl⟩ := hrel
      by_cases hlt : k < l.length
      · have c := h3' k (by omega)
        have hq := Nat.lt_of_lt_of_le (valOf_lt l k (by omega)) (pow256_le k (by omega))
        have hst := Lib.hid (valOf_take l k (by omega))
        generalize valOf (l.take k) = q at *
        go_wp2
        rw [u64_or_byte q _ hq (u8_lt _)]
        go_round
        case rel => exact ⟨k + 1, by omega, by go_num, by rw [hst.out]; try simp [hlt]⟩
        case measure => simp [intOf]; omega
      · obtain rfl : k = l.length := by omega
        go_wp2_with (at_builtin; go_must (refine wpList_append_from rfl _ _ _ rfl (w.heap.size) el_u8 rfl hown.out rfl hsrc.out hc4.out hc5.out ?_); intro v' w' ho hg hb)
        go_ret3
        exact ⟨_, rfl, ((Below.refl _ _).alloc (Nat.le_refl _) _).trans hb, by simpa using ho⟩
  · have hsrc := Lib.hid ((src_drop h3' s (cap - s)).alloc (.cells #[] 5))
    have hc4 : Hid ((0 + (l.length - s)) * 1 ≤ 140737488355328) := by unfold Hid; omega
    have hc5 : Hid (w.heap.size ≤ (w.alloc (.cells #[] 5)).heap.size) := by rw [World.size_alloc]; exact Nat.le_succ _
    go_enter Tryd.func17, Tryd.ntmps17
    go_wp2
    go_loop [7, 8, 19] (fun p _ i => ∃ k : Nat, k ≤ s ∧ i = .int .i64 k ∧ p = .int .u64 (valOf (l.take k) : Nat)) (fun _ _ i => s - (intOf i).toNat)
    case atStart => exact ⟨0, by omega, rfl, rfl⟩
    case round =>
      obtain ⟨k, hk, rfl, rfl⟩ := hrel
      by_cases hlt : k < s
      · have c := h3' k (by omega)
        have hq := Nat.lt_of_lt_of_le (valOf_lt l k (by omega)) (pow256_le k (by omega))
        have hst := Lib.hid (valOf_take l k (by omega))
        generalize valOf (l.take k) = q at *
        go_wp2
        rw [u64_or_byte q _ hq (u8_lt _)]
        go_round
        case rel => exact ⟨k + 1, by omega, by go_num, by rw [hst.out]; try simp [hlt]⟩
        case measure => simp [intOf]; omega
      · obtain rfl : k = s := by omega
        go_wp2_with (at_builtin; go_must (refine wpList_append_from rfl _ _ _ rfl (w.heap.size) el_u8 rfl hown.out rfl hsrc.out hc4.out hc5.out ?_); intro v' w' ho hg hb)
        go_ret3
        exact ⟨_, rfl, ((Below.refl _ _).alloc (Nat.le_refl _) _).trans hb, by simpa using ho⟩
theorem u64_add_byte (q b : Nat) (hq : q < 72057594037927936) (hb : b < 256) : IntKind.u64.wrap (256 * (q : Int) + IntKind.u64.wrap (b : Int)) = ((256 * q + b : Nat) : Int) := by
  have hw : ∀ n : Int, IntKind.u64.wrap n = n % 18446744073709551616 := fun n => by simp [IntKind.wrap, IntKind.bits, IntKind.signed]
  rw [hw, hw]; omega

theorem rtake_any (v : Value) (l : List UInt8) (s : Nat) (h1 : 1 ≤ s) (h8 : s ≤ 8) (hs : s ≤ l.length) (hlen : l.length ≤ 1000000) (w : World) (hv : IsBytes w v l) :
    Calls Tryd.prog 18 #[v, .int .i64 s] w fun e w' => ∃ v', e = .returned (.tuple #[.int .u64 (valOf (l.take s) : Nat), v', .bool true]) ∧ Below w.heap.size w w' ∧ w'.ownsRow w.heap.size 5 1 v' (l.length - s) ((l.drop s).map bv) := by
  have i1 : (1 : Int) ≤ s := by omega
  have i2 : (s : Int) ≤ 8 := by omega
  have i3 : ¬ l.length < s := by omega
  rcases hv with ⟨rfl, rfl⟩ | ⟨x, cap, rfl, h1', h2', h3'⟩
  · simp at hs; omega
  unfold maxLen at h2'
  have hown := Lib.hid (own_empty w w.heap.size (Nat.le_refl _) 5 1)
  by_cases hcap : cap = s
  · obtain rfl : l.length = s := by omega
    subst hcap
    have hsrc := Lib.hid ((src_drop_all (w := w) x l).alloc (.cells #[] 5))
    have hc4 : Hid ((0 + 0) * 1 ≤ 140737488355328) := by unfold Hid; decide
    have hc5 : Hid (w.heap.size ≤ (w.alloc (.cells #[] 5)).heap.size) := by rw [World.size_alloc]; exact Nat.le_succ _
    go_enter Tryd.func18, Tryd.ntmps18
    go_wp2
    go_loop [7, 8] (fun p i => ∃ k : Nat, k ≤ l.length ∧ i = .int .i64 k ∧ p = .int .u64 (valOf (l.take k) : Nat)) (fun _ i => l.length - (intOf i).toNat)
    case atStart => exact ⟨0, by omega, rfl, rfl⟩
    case round =>
      obtain ⟨k, hk, rfl, rfl⟩ := hrel
      by_cases hlt : k < l.length
      · have c := h3' k (by omega)
        have hq := Nat.lt_of_lt_of_le (valOf_lt l k (by omega)) (pow256_le k (by omega))
        have hst := Lib.hid (valOf_take l k (by omega))
        generalize valOf (l.take k) = q at *
        go_wp2
        rw [u64_add_byte q _ hq (u8_lt _)]
        go_round
        case rel => exact ⟨k + 1, by omega, by go_num, by rw [hst.out]; try simp [hlt]⟩
        case measure => simp [intOf]; omega
      · obtain rfl : k = l.length := by omega
        go_wp2_with (at_builtin; go_must (refine wpList_append_from rfl _ _ _ rfl (w.heap.size) el_u8 rfl hown.out rfl hsrc.out hc4.out hc5.out ?_); intro v' w' ho hg hb)
        go_ret3
        exact ⟨_, rfl, ((Below.refl _ _).alloc (Nat.le_refl _) _).trans hb, by simpa using ho⟩
  · have hsrc := Lib.hid ((src_drop h3' s (cap - s)).alloc (.cells #[] 5))
    have hc4 : Hid ((0 + (l.length - s)) * 1 ≤ 140737488355328) := by unfold Hid; omega
    have hc5 : Hid (w.heap.size ≤ (w.alloc (.cells #[] 5)).heap.size) := by rw [World.size_alloc]; exact Nat.le_succ _
    go_enter Tryd.func18, Tryd.ntmps18
    go_wp2
    go_loop [7, 8] (fun p i => ∃ k : Nat, k ≤ s ∧ i = .int .i64 k ∧ p = .int .u64 (valOf (l.take k) : Nat)) (fun _ i => s - (intOf i).toNat)
    case atStart => exact ⟨0, by omega, rfl, rfl⟩
    case round =>
      obtain ⟨k, hk, rfl, rfl⟩ := hrel
      by_cases hlt : k < s
      · have c := h3' k (by omega)
        have hq := Nat.lt_of_lt_of_le (valOf_lt l k (by omega)) (pow256_le k (by omega))
        have hst := Lib.hid (valOf_take l k (by omega))
        generalize valOf (l.take k) = q at *
        go_wp2
        rw [u64_add_byte q _ hq (u8_lt _)]
        go_round
        case rel => exact ⟨k + 1, by omega, by go_num, by rw [hst.out]; try simp [hlt]⟩
        case measure => simp [intOf]; omega
      · obtain rfl : k = s := by omega
        go_wp2_with (at_builtin; go_must (refine wpList_append_from rfl _ _ _ rfl (w.heap.size) el_u8 rfl hown.out rfl hsrc.out hc4.out hc5.out ?_); intro v' w' ho hg hb)
        go_ret3
        exact ⟨_, rfl, ((Below.refl _ _).alloc (Nat.le_refl _) _).trans hb, by simpa using ho⟩

theorem take_bad (v : Value) (l : List UInt8) (s : Int) (h : s < 1 ∨ 8 < s ∨ l.length < s) (w : World) (hv : IsBytes w v l) :
    Calls Tryd.prog 17 #[v, .int .i64 s] w fun e w' => e = .returned (.tuple #[.int .u64 0, .slice none 0 0, .bool false]) ∧ w' = w := by
  obtain ⟨a, cap, rfl, h1, h2⟩ := hv.shape
  clear hv
  generalize l.length = n at *
  by_cases a1 : 1 ≤ s
  · by_cases a2 : s ≤ 8
    · have a3 : (n : Int) < s := by omega
      clear h
      go_enter Tryd.func17, Tryd.ntmps17
      go_wp2
      go_ret3
      exact ⟨rfl, rfl⟩
    · clear h
      go_enter Tryd.func17, Tryd.ntmps17
      go_wp2
      go_ret3
      exact ⟨rfl, rfl⟩
  · clear h
    go_enter Tryd.func17, Tryd.ntmps17
    go_wp2
    go_ret3
    exact ⟨rfl, rfl⟩

theorem rtake_bad (v : Value) (l : List UInt8) (s : Int) (h : s < 1 ∨ 8 < s ∨ l.length < s) (w : World) (hv : IsBytes w v l) :
    Calls Tryd.prog 18 #[v, .int .i64 s] w fun e w' => e = .returned (.tuple #[.int .u64 0, .slice none 0 0, .bool false]) ∧ w' = w := by
  obtain ⟨a, cap, rfl, h1, h2⟩ := hv.shape
  clear hv
  generalize l.length = n at *
  by_cases a1 : 1 ≤ s
  · by_cases a2 : s ≤ 8
    · have a3 : (n : Int) < s := by omega
      clear h
      go_enter Tryd.func18, Tryd.ntmps18
      go_wp2
      go_ret3
      exact ⟨rfl, rfl⟩
    · clear h
      go_enter Tryd.func18, Tryd.ntmps18
      go_wp2
      go_ret3
      exact ⟨rfl, rfl⟩
  · clear h
    go_enter Tryd.func18, Tryd.ntmps18
    go_wp2
    go_ret3
    exact ⟨rfl, rfl⟩

theorem put_bad (n s : Int) (h : s < 1 ∨ 8 < s) (w : World) :
    Calls Tryd.prog 12 #[.int .u64 n, .int .i64 s] w fun e w' => e = .returned (.slice none 0 0) ∧ w' = w := by
  by_cases a1 : 1 ≤ s
  · have a2 : ¬ s ≤ 8 := by omega
    clear h
    go_enter Tryd.func12, Tryd.ntmps12
    go_wp2
    go_ret
    exact ⟨rfl, rfl⟩
  · clear h
    go_enter Tryd.func12, Tryd.ntmps12
    go_wp2
    go_ret
    exact ⟨rfl, rfl⟩

theorem rput_bad (n s : Int) (h : s < 1 ∨ 8 < s) (w : World) :
    Calls Tryd.prog 19 #[.int .u64 n, .int .i64 s] w fun e w' => e = .returned (.slice none 0 0) ∧ w' = w := by
  by_cases a1 : 1 ≤ s
  · have a2 : ¬ s ≤ 8 := by omega
    clear h
    go_enter Tryd.func19, Tryd.ntmps19
    go_wp2
    go_ret
    exact ⟨rfl, rfl⟩
  · clear h
    go_enter Tryd.func19, Tryd.ntmps19
    go_wp2
    go_ret
    exact ⟨rfl, rfl⟩
end Go.Proofs.YtmbbcgfcallllaaDoor
