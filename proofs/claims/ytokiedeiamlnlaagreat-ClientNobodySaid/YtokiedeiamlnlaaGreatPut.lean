/- octet.Put and conciergeref01.Put: the bytes of a number, the highest first. -/
import Derived.Test.YtokiedeiamlnlaaGreatProg
import Derived.Test.YtokiedeiamlnlaaGreatBase
namespace Go.Proofs.YtokiedeiamlnlaaGreat
set_option linter.unusedSimpArgs false
set_option linter.unusedVariables false
open Go.RowKit
set_option maxRecDepth 10000
def putCell (n k j : Nat) : Value := if 8 - k ≤ j then .int .u8 ((n : Int) / 2 ^ (8 * (7 - j)) % 256) else .int .u8 0
def putArr (n k : Nat) : Array Value := #[putCell n k 0, putCell n k 1, putCell n k 2, putCell n k 3, putCell n k 4, putCell n k 5, putCell n k 6, putCell n k 7]
theorem putArr_get (n k j : Nat) (h : j < 8) : (putArr n k)[j]? = some (putCell n k j) := by
  rcases (by omega : j = 0 ∨ j = 1 ∨ j = 2 ∨ j = 3 ∨ j = 4 ∨ j = 5 ∨ j = 6 ∨ j = 7) with rfl | rfl | rfl | rfl | rfl | rfl | rfl | rfl <;> rfl
theorem putArr_set (n k : Nat) (h : k < 8) : (putArr n k).setIfInBounds (7 - k) (.int .u8 ((n : Int) / 2 ^ (8 * k) % 256)) = putArr n (k + 1) := by
  rcases (by omega : k = 0 ∨ k = 1 ∨ k = 2 ∨ k = 3 ∨ k = 4 ∨ k = 5 ∨ k = 6 ∨ k = 7) with rfl | rfl | rfl | rfl | rfl | rfl | rfl | rfl <;> rfl
theorem el_u8 : ElemOf Tryz.prog 24 5 1 1 (.int .u8 0) := ⟨by kernel_rfl, ⟨_, rfl, rfl, rfl, rfl⟩, rfl, by decide, by decide⟩

def beByte (n i : Nat) : UInt8 := UInt8.ofNat (n / 2 ^ (8 * i))
/-- the lowest 'size' bytes of n, the highest first -/
def be (n size : Nat) : List UInt8 := (List.range size).map fun i => beByte n (size - 1 - i)

theorem beByte_int (n i : Nat) : ((n : Int) / 2 ^ (8 * i) % 256) = ((beByte n i).toNat : Int) := by
  simp [beByte]

theorem putCell_be (n j : Nat) : putCell n 8 j = bv (beByte n (7 - j)) := by
  unfold putCell
  rw [if_pos (by omega), beByte_int]

theorem put_src (n s : Nat) (hs1 : 1 ≤ s) (hs8 : s ≤ 8) (w : World) (o : Obj) : SrcOf ((w.alloc (.cells (putArr n 8) 225)).alloc o) 1 (.slice (some ⟨w.heap.size, 8 - s, none⟩) (8 - (8 - s)) (8 - (8 - s))) s ((be n s).map bv) := by
  rw [show 8 - (8 - s) = s by omega]
  refine .inr ⟨_, _, rfl, by simp [be], ?_, ?_⟩
  · intro j u hu
    rw [List.getElem?_map] at hu
    by_cases hj : j < s
    · simp [be, hj] at hu
      subst hu
      have : (⟨w.heap.size, 8 - s, none⟩ : Addr).add j = ⟨w.heap.size, 8 - s + j, none⟩ := by
        unfold Addr.add; split <;> simp_all
      rw [this]
      have hc := putArr_get n 8 (8 - s + j) (by omega)
      rw [putCell_be, show 7 - (8 - s + j) = s - 1 - j by omega] at hc
      refine (World.cell?_alloc_lt _ _ _ (by show w.heap.size < _; rw [World.size_alloc]; omega)).trans ?_
      rw [cell_of_row (w.alloc (.cells (putArr n 8) 225)) w.heap.size _ (putArr n 8) 225 (0, 0) (heap_alloc_new _ _)]
      exact hc
    · simp [be, hj] at hu
  · intro u hu
    obtain ⟨_, _, rfl⟩ := List.mem_map.1 hu
    rfl

theorem put_any (n : Nat) (_hn : n < 18446744073709551616) (s : Nat) (h1 : 1 ≤ s) (h8 : s ≤ 8) (w : World) :
    Calls Tryz.prog 85 #[.int .u64 n, .int .i64 s] w fun e w' => ∃ v, e = .returned v ∧ Below w.heap.size w w' ∧ w'.ownsRow w.heap.size 5 1 v s ((be n s).map bv) := by
  have i1 : (1 : Int) ≤ s := by omega
  have i2 : (s : Int) ≤ 8 := by omega
  go_enter Tryz.func85, Tryz.ntmps85
  go_wp2
  go_loopw [6, 10] (fun _ i wr => ∃ k : Nat, k ≤ 8 ∧ i = .int .i64 k ∧ wr = w.alloc (.cells (putArr n k) 225)) (fun _ i _ => 8 - (intOf i).toNat)
  case atStart => exact ⟨0, by omega, rfl, rfl⟩
  case round =>
    obtain ⟨k, hk, rfl, rfl⟩ := hrel
    by_cases hlt : k < 8
    · have g := putArr_get n k (7 - k) (by omega)
      have s := Lib.hid (putArr_set n k hlt)
      go_wp2
      rw [s.out]
      go_roundw
      case rel => exact ⟨k + 1, by omega, by go_num, rfl⟩
      case measure => simp [intOf]; omega
    · obtain rfl : k = 8 := by omega
      have hsrc := Lib.hid (put_src n s h1 h8 w (.cells #[] 5))
      generalize hp : putArr n 8 = arr at hsrc
      have Hp := Lib.hid hp
      clear hp
      have hown : ((w.alloc (.cells arr 225)).alloc (.cells #[] 5)).ownsRow w.heap.size 5 1 (.slice (some ⟨w.heap.size + 1, 0, none⟩) 0 0) 0 [] := by
        have := World.ownsRow_made (w.alloc (.cells arr 225)) (base := w.heap.size) (e := 5) (size := 1) #[] 0 (by simp) (by simp) (by simp)
        rw [World.size_alloc] at this
        exact this
      have hown := Lib.hid hown
      have hA : Tryz.prog.arrayLen 225 = 8 := by kernel_rfl
      have h8' : (8 : Int) - s ≤ 8 := by omega
      have h0' : (0 : Int) ≤ 8 - s := by omega
      have hx : 8 - (8 - (s : Int)).toNat = s := by omega
      have hx2 : (8 - (s : Int)).toNat = 8 - s := by omega
      go_wp2_with (at_builtin; go_loud (refine wpList_append_from rfl _ _ _ rfl (w.heap.size) el_u8 rfl hown.out rfl hsrc.out ?c4 ?c5 ?_))
      case c4 => simp; omega
      case c5 => simp; omega
      intro v' w' ho hg hb
      go_wp2
      go_ret
      exact ⟨_, rfl, (((Below.refl _ _).alloc (Nat.le_refl _) _).alloc (by simp) _).trans hb, ho⟩
/-- what lies in the row behind k rounds of the reference's Put: the last k bytes -/
def rputRow (n s k : Nat) : List UInt8 := (List.range s).map fun i => if s - k ≤ i then beByte n (s - 1 - i) else 0
theorem rputRow_zero (n s : Nat) : (rputRow n s 0).map bv = (madeCells #[.int .u8 0] (s * 1)).toList := by
  rw [Nat.mul_one, toList_madeCells_one]
  apply List.ext_getElem
  · simp [rputRow]
  · intro i h1 h2
    simp [rputRow] at h1 ⊢
    rw [if_neg (by omega)]; rfl
theorem rputRow_set (n s k : Nat) (h : k < s) : ((rputRow n s k).map bv).set (s - 1 - k) (bv (beByte n k)) = (rputRow n s (k + 1)).map bv := by
  apply List.ext_getElem
  · simp [rputRow]
  · intro i h1 h2
    simp [rputRow] at h1 h2
    simp only [rputRow, List.map_map, List.getElem_set, List.getElem_map, List.getElem_range, Function.comp]
    by_cases he : s - 1 - k = i
    · rw [if_pos he, if_pos (by omega), show s - 1 - i = k by omega]
    · rw [if_neg he]
      by_cases hk : s - k ≤ i
      · rw [if_pos hk, if_pos (by omega)]
      · rw [if_neg hk, if_neg (by omega)]
theorem rputRow_get (n s k : Nat) (h : k < s) : ((rputRow n s k).map bv)[s - 1 - k]? = some (bv 0) := by
  rw [List.getElem?_eq_getElem (by simp [rputRow]; omega)]
  simp [rputRow]
  rw [if_neg (by omega)]; rfl
theorem rputRow_full (n s : Nat) : rputRow n s s = be n s := by
  simp [rputRow, be]

def RPutRel (w : World) (n s : Nat) (p i : Value) (wr : World) : Prop :=
  ∃ k : Nat, k ≤ s ∧ i = .int .i64 k ∧ p = .int .u64 ((n / 256 ^ k : Nat) : Int) ∧ Below w.heap.size w wr ∧ wr.ownsRow w.heap.size 5 1 (.slice (some ⟨w.heap.size, 0, none⟩) s s) s ((rputRow n s k).map bv)

theorem RPutRel.step {w wr : World} {n s k : Nat} (hk : k < s) (hb : Below w.heap.size w wr) (ho : wr.ownsRow w.heap.size 5 1 (.slice (some ⟨w.heap.size, 0, none⟩) s s) s ((rputRow n s k).map bv)) :
    RPutRel w n s (.int .u64 (((n / 256 ^ k : Nat) : Int) / 256)) (.int .i64 ((k : Int) + 1)) (wr.setCell ⟨w.heap.size, s - 1 - k, none⟩ (.int .u8 (((n / 256 ^ k : Nat) : Int) % 256))) := by
  refine ⟨k + 1, hk, by simp, ?_, hb.setCell (Nat.le_refl _) _, ?_⟩
  · rw [Nat.pow_succ, ← Nat.div_div_eq_div_mul]; simp
  · have := own_set ho (s - 1 - k) (bv (beByte n k))
    rw [rputRow_set n s k hk] at this
    have e : ((n / 256 ^ k : Nat) : Int) % 256 = ((beByte n k).toNat : Int) := by
      rw [beByte, show (2 : Nat) ^ (8 * k) = 256 ^ k by rw [Nat.pow_mul]]
      simp
    rw [e]
    exact this

theorem rput_any (n : Nat) (hn : n < 18446744073709551616) (s : Nat) (h1 : 1 ≤ s) (h8 : s ≤ 8) (w : World) :
    Calls Tryz.prog 108 #[.int .u64 n, .int .i64 s] w fun e w' => ∃ v, e = .returned v ∧ Below w.heap.size w w' ∧ w'.ownsRow w.heap.size 5 1 v s ((be n s).map bv) := by
  have i1 : (1 : Int) ≤ s := by omega
  have i2 : (s : Int) ≤ 8 := by omega
  obtain ⟨w1, hmk, hown, hbel, hsz⟩ := run_make_own_full el_u8 w w.heap.size .i64 .i64 s (by omega) (by unfold maxLen; omega) (Nat.le_refl _)
  have Hown := Lib.hid hown
  have Hsz := Lib.hid hsz
  have Hbel := Lib.hid hbel
  clear hown hsz hbel
  go_enter Tryz.func108, Tryz.ntmps108
  go_wp2
  go_loopw [0, 6] (fun p i wr => RPutRel w n s p i wr) (fun _ i _ => s - (intOf i).toNat)
  case atStart => exact ⟨0, Nat.zero_le _, rfl, by simp, Hbel.out, by rw [rputRow_zero]; exact Hown.out⟩
  case round =>
    obtain ⟨k, hk, rfl, rfl, hb, ho⟩ := hrel
    by_cases hlt : k < s
    · have hc := own_cell ho _ _ (rputRow_get n s k hlt)
      have hf := own_frozen ho (s - 1 - k)
      have hq : n / 256 ^ k < 18446744073709551616 := Nat.lt_of_le_of_lt (Nat.div_le_self _ _) hn
      have hst := Lib.hid (RPutRel.step hlt hb ho)
      clear ho hb
      generalize n / 256 ^ k = q at *
      have e1 : ((s : Int) - 1 - k).toNat = s - 1 - k := by omega
      go_wp2
      exact ⟨hst.out, by simp [intOf]; omega⟩
    · obtain rfl : k = s := by omega
      rw [rputRow_full] at ho
      go_wp2
      go_ret
      exact ⟨_, rfl, hb, ho⟩

theorem put_bad (n s : Int) (h : s < 1 ∨ 8 < s) (w : World) :
    Calls Tryz.prog 85 #[.int .u64 n, .int .i64 s] w fun e w' => e = .returned (.slice none 0 0) ∧ w' = w := by
  by_cases a1 : 1 ≤ s
  · have a2 : ¬ s ≤ 8 := by omega
    clear h
    go_enter Tryz.func85, Tryz.ntmps85
    go_wp2
    go_ret
    exact ⟨rfl, rfl⟩
  · clear h
    go_enter Tryz.func85, Tryz.ntmps85
    go_wp2
    go_ret
    exact ⟨rfl, rfl⟩

theorem rput_bad (n s : Int) (h : s < 1 ∨ 8 < s) (w : World) :
    Calls Tryz.prog 108 #[.int .u64 n, .int .i64 s] w fun e w' => e = .returned (.slice none 0 0) ∧ w' = w := by
  by_cases a1 : 1 ≤ s
  · have a2 : ¬ s ≤ 8 := by omega
    clear h
    go_enter Tryz.func108, Tryz.ntmps108
    go_wp2
    go_ret
    exact ⟨rfl, rfl⟩
  · clear h
    go_enter Tryz.func108, Tryz.ntmps108
    go_wp2
    go_ret
    exact ⟨rfl, rfl⟩
def beI (n : Nat) (s : Int) : List UInt8 := if 1 ≤ s ∧ s ≤ 8 then be n s.toNat else []
theorem put_all (n : Nat) (hn : n < 18446744073709551616) (s : Int) (w : World) :
    Calls Tryz.prog 85 #[.int .u64 n, .int .i64 s] w fun e w' => ∃ v, e = .returned v ∧ Below w.heap.size w w' ∧ IsBytes w' v (beI n s) := by
  by_cases h : 1 ≤ s ∧ s ≤ 8
  · obtain ⟨k, rfl⟩ := Int.eq_ofNat_of_zero_le (show 0 ≤ s by omega)
    have hk : beI n (k : Int) = be n k := by unfold beI; rw [if_pos h]; rfl
    rw [hk]
    refine (put_any n hn k (by omega) (by omega) w).mono ?_
    rintro e w' ⟨v, rfl, hb, ho⟩
    exact ⟨v, rfl, hb, own_bytes ho⟩
  · have hk : beI n s = [] := by unfold beI; rw [if_neg h]
    rw [hk]
    refine (put_bad n s (by omega) w).mono ?_
    rintro e w' ⟨rfl, rfl⟩
    exact ⟨_, rfl, Below.refl _ _, .nil _⟩
theorem rput_all (n : Nat) (hn : n < 18446744073709551616) (s : Int) (w : World) :
    Calls Tryz.prog 108 #[.int .u64 n, .int .i64 s] w fun e w' => ∃ v, e = .returned v ∧ Below w.heap.size w w' ∧ IsBytes w' v (beI n s) := by
  by_cases h : 1 ≤ s ∧ s ≤ 8
  · obtain ⟨k, rfl⟩ := Int.eq_ofNat_of_zero_le (show 0 ≤ s by omega)
    have hk : beI n (k : Int) = be n k := by unfold beI; rw [if_pos h]; rfl
    rw [hk]
    refine (rput_any n hn k (by omega) (by omega) w).mono ?_
    rintro e w' ⟨v, rfl, hb, ho⟩
    exact ⟨v, rfl, hb, own_bytes ho⟩
  · have hk : beI n s = [] := by unfold beI; rw [if_neg h]
    rw [hk]
    refine (rput_bad n s (by omega) w).mono ?_
    rintro e w' ⟨rfl, rfl⟩
    exact ⟨_, rfl, Below.refl _ _, .nil _⟩

end Go.Proofs.YtokiedeiamlnlaaGreat
