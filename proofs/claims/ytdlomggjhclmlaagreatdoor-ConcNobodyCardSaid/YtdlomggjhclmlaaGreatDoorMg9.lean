/- Mg9: texts of this claim, one behind the other: Put Cat Grw Clr. No condition. -/
import Derived.Test.YtdlomggjhclmlaaGreatDoorProg
import Derived.Test.YtdlomggjhclmlaaGreatDoorBase
import Derived.Test.YtdlomggjhclmlaaGreatDoorEvJ
import Derived.Test.YtdlomggjhclmlaaGreatDoorEvN
import Derived.Test.YtdlomggjhclmlaaGreatDoorMg7
namespace Go.Proofs.YtdlomggjhclmlaaGreatDoor
set_option linter.unusedSimpArgs false
set_option linter.unusedVariables false
open Go.RowKit
set_option maxRecDepth 10000
def putCell (n k j : Nat) : Value := if 8 - k ≤ j then .int .u8 ((n : Int) / 2 ^ (8 * (7 - j)) % 256) else .int .u8 0
def putArr (n k : Nat) : Array Value := #[putCell n k 0, putCell n k 1, putCell n k 2, putCell n k 3, putCell n k 4, putCell n k 5, putCell n k 6, putCell n k 7]
theorem putArr_get (n k j : Nat) (h : j < 8) : (putArr n k)[j]? = some (putCell n k j) := by
  rcases (by omega : j = 0 ∨ j = 1 ∨ j = 2 ∨ j = 3 ∨ j = 4 ∨ j = 5 ∨ j = 6 ∨ j = 7) with rfl | rfl | rfl | rfl | rfl | rfl | rfl | rfl <;> rfl
theorem putArr_set (n k : Nat) (h : k < 8) : (putArr n k).setIfInBounds (7 - k) (.int .u8 ((n : Int) / 2 ^ (8 * k) % 256)) = putArr n (k + 1) := by
  rcases (by omega : k = 0 ∨ k = 1 ∨ k = 2 ∨ k = 3 ∨ k = 4 ∨ k = 5 ∨ k = 6 ∨ k = 7) with rfl | rfl | rfl | rfl | rfl | rfl | rfl | rfl <;> rfl
theorem el_u8 : ElemOf Tryz.prog 23 5 1 1 (.int .u8 0) := ⟨by kernel_rfl, ⟨_, rfl, rfl, rfl, rfl⟩, rfl, by decide, by decide⟩

def beByte (n i : Nat) : UInt8 := UInt8.ofNat (n / 2 ^ (8 * i))
/-- the lowest 'size' bytes of n, the highest first -/
def be (n size : Nat) : List UInt8 := (List.range size).map fun i => beByte n (size - 1 - i)

theorem beByte_int (n i : Nat) : ((n : Int) / 2 ^ (8 * i) % 256) = ((beByte n i).toNat : Int) := by
  simp [beByte]

theorem putCell_be (n j : Nat) : putCell n 8 j = bv (beByte n (7 - j)) := by
  unfold putCell
  rw [if_pos (by omega), beByte_int]

theorem put_src (n s : Nat) (hs1 : 1 ≤ s) (hs8 : s ≤ 8) (w : World) (o : Obj) : SrcOf ((w.alloc (.cells (putArr n 8) 474)).alloc o) 1 (.slice (some ⟨w.heap.size, 8 - s, none⟩) (8 - (8 - s)) (8 - (8 - s))) s ((be n s).map bv) := by
  rw [show 8 - (8 - s) = s by omega]
  refine .inr ⟨_, _, rfl, by simp [be], ?_, ?_⟩
  · intro j u hu
    rw [List.getElem?_map] at hu
    by_cases hj : j < s
    · simp [be, hj] at hu
      subst hu
      have : (⟨w.heap.size, 8 - s, none⟩ : Addr).add j = ⟨w.heap.size, 8 - s + j, none⟩ := by
        unfold Addr.add; split <;> simp_all
      rw [this]
      have hc := putArr_get n 8 (8 - s + j) (by omega)
      rw [putCell_be, show 7 - (8 - s + j) = s - 1 - j by omega] at hc
      refine (World.cell?_alloc_lt _ _ _ (by show w.heap.size < _; rw [World.size_alloc]; omega)).trans ?_
      rw [cell_of_row (w.alloc (.cells (putArr n 8) 474)) w.heap.size _ (putArr n 8) 474 (0, 0) (heap_alloc_new _ _)]
      exact hc
    · simp [be, hj] at hu
  · intro u hu
    obtain ⟨_, _, rfl⟩ := List.mem_map.1 hu
    rfl

theorem put_any (n : Nat) (_hn : n < 18446744073709551616) (s : Nat) (h1 : 1 ≤ s) (h8 : s ≤ 8) (w : World) :
    Calls Tryz.prog 285 #[.int .u64 n, .int .i64 s] w fun e w' => ∃ v, e = .returned v ∧ Below w.heap.size w w' ∧ w'.ownsRow w.heap.size 5 1 v s ((be n s).map bv) := by
  have i1 : (1 : Int) ≤ s := by omega
  have i2 : (s : Int) ≤ 8 := by omega
  go_enter Tryz.func285, Tryz.ntmps285
  go_wp2
  go_loopw [6, 10] (fun _ i wr => ∃ k : Nat, k ≤ 8 ∧ i = .int .i64 k ∧ wr = w.alloc (.cells (putArr n k) 474)) (fun _ i _ => 8 - (intOf i).toNat)
  case atStart => exact ⟨0, by omega, rfl, rfl⟩
  case round =>
    obtain ⟨k, hk, rfl, rfl⟩ := hrel
    by_cases hlt : k < 8
    · have g := putArr_get n k (7 - k) (by omega)
      have s := Lib.hid (putArr_set n k hlt)
      go_wp2
      rw [s.out]
      go_roundw
      case rel => exact ⟨k + 1, by omega, by go_num, rfl⟩
      case measure => simp [intOf]; omega
    · obtain rfl : k = 8 := by omega
      have hsrc := Lib.hid (put_src n s h1 h8 w (.cells #[] 5))
      generalize hp : putArr n 8 = arr at hsrc
      have Hp := Lib.hid hp
      clear hp
      have hown : ((w.alloc (.cells arr 474)).alloc (.cells #[] 5)).ownsRow w.heap.size 5 1 (.slice (some ⟨w.heap.size + 1, 0, none⟩) 0 0) 0 [] := by
        have := World.ownsRow_made (w.alloc (.cells arr 474)) (base := w.heap.size) (e := 5) (size := 1) #[] 0 (by simp) (by simp) (by simp)
        rw [World.size_alloc] at this
        exact this
      have hown := Lib.hid hown
      have hA : Tryz.prog.arrayLen 474 = 8 := by kernel_rfl
      have h8' : (8 : Int) - s ≤ 8 := by omega
      have h0' : (0 : Int) ≤ 8 - s := by omega
      have hx : 8 - (8 - (s : Int)).toNat = s := by omega
      have hx2 : (8 - (s : Int)).toNat = 8 - s := by omega
      go_wp2_with (at_builtin; go_loud (refine wpList_append_from rfl _ _ _ rfl (w.heap.size) el_u8 rfl hown.out rfl hsrc.out ?c4 ?c5 ?_))
      case c4 => simp; omega
      case c5 => simp; omega
      intro v' w' ho hg hb
      go_wp2
      go_ret
      exact ⟨_, rfl, (((Below.refl _ _).alloc (Nat.le_refl _) _).alloc (by simp) _).trans hb, ho⟩
/-- what lies in the row behind k rounds of the reference's Put: the last k bytes -/
def rputRow (n s k : Nat) : List UInt8 := (List.range s).map fun i => if s - k ≤ i then beByte n (s - 1 - i) else 0
theorem rputRow_zero (n s : Nat) : (rputRow n s 0).map bv = (madeCells #[.int .u8 0] (s * 1)).toList := by
  rw [Nat.mul_one, toList_madeCells_one]
  apply List.ext_getElem
  · simp [rputRow]
  · intro i h1 h2
    simp [rputRow] at h1 ⊢
    rw [if_neg (by omega)]; rfl
theorem rputRow_set (n s k : Nat) (h : k < s) : ((rputRow n s k).map bv).set (s - 1 - k) (bv (beByte n k)) = (rputRow n s (k + 1)).map bv := by
  apply List.ext_getElem
  · simp [rputRow]
  · intro i h1 h2
    simp [rputRow] at h1 h2
    simp only [rputRow, List.map_map, List.getElem_set, List.getElem_map, List.getElem_range, Function.comp]
    by_cases he : s - 1 - k = i
    · rw [if_pos he, if_pos (by omega), show s - 1 - i = k by omega]
    · rw [if_neg he]
      by_cases hk : s - k ≤ i
      · rw [if_pos hk, if_pos (by omega)]
      · rw [if_neg hk, if_neg (by omega)]
theorem rputRow_get (n s k : Nat) (h : k < s) : ((rputRow n s k).map bv)[s - 1 - k]? = some (bv 0) := by
  rw [List.getElem?_eq_getElem (by simp [rputRow]; omega)]
  simp [rputRow]
  rw [if_neg (by omega)]; rfl
theorem rputRow_full (n s : Nat) : rputRow n s s = be n s := by
  simp [rputRow, be]

def RPutRel (w : World) (n s : Nat) (p i : Value) (wr : World) : Prop :=
  ∃ k : Nat, k ≤ s ∧ i = .int .i64 k ∧ p = .int .u64 ((n / 256 ^ k : Nat) : Int) ∧ Below w.heap.size w wr ∧ wr.ownsRow w.heap.size 5 1 (.slice (some ⟨w.heap.size, 0, none⟩) s s) s ((rputRow n s k).map bv)

theorem RPutRel.step {w wr : World} {n s k : Nat} (hk : k < s) (hb : Below w.heap.size w wr) (ho : wr.ownsRow w.heap.size 5 1 (.slice (some ⟨w.heap.size, 0, none⟩) s s) s ((rputRow n s k).map bv)) :
    RPutRel w n s (.int .u64 (((n / 256 ^ k : Nat) : Int) / 256)) (.int .i64 ((k : Int) + 1)) (wr.setCell ⟨w.heap.size, s - 1 - k, none⟩ (.int .u8 (((n / 256 ^ k : Nat) : Int) % 256))) := by
  refine ⟨k + 1, hk, by simp, ?_, hb.setCell (Nat.le_refl _) _, ?_⟩
  · rw [Nat.pow_succ, ← Nat.div_div_eq_div_mul]; simp
  · have := own_set ho (s - 1 - k) (bv (beByte n k))
    rw [rputRow_set n s k hk] at this
    have e : ((n / 256 ^ k : Nat) : Int) % 256 = ((beByte n k).toNat : Int) := by
      rw [beByte, show (2 : Nat) ^ (8 * k) = 256 ^ k by rw [Nat.pow_mul]]
      simp
    rw [e]
    exact this

theorem rput_any (n : Nat) (hn : n < 18446744073709551616) (s : Nat) (h1 : 1 ≤ s) (h8 : s ≤ 8) (w : World) :
    Calls Tryz.prog 177 #[.int .u64 n, .int .i64 s] w fun e w' => ∃ v, e = .returned v ∧ Below w.heap.size w w' ∧ w'.ownsRow w.heap.size 5 1 v s ((be n s).map bv) := by
  have i1 : (1 : Int) ≤ s := by omega
  have i2 : (s : Int) ≤ 8 := by omega
  obtain ⟨w1, hmk, hown, hbel, hsz⟩ := run_make_own_full el_u8 w w.heap.size .i64 .i64 s (by omega) (by unfold maxLen; omega) (Nat.le_refl _)
  have Hown := Lib.hid hown
  have Hsz := Lib.hid hsz
  have Hbel := Lib.hid hbel
  clear hown hsz hbel
  go_enter Tryz.func177, Tryz.ntmps177
  go_wp2
  go_loopw [0, 6] (fun p i wr => RPutRel w n s p i wr) (fun _ i _ => s - (intOf i).toNat)
  case atStart => exact ⟨0, Nat.zero_le _, rfl, by simp, Hbel.out, by rw [rputRow_zero]; exact Hown.out⟩
  case round =>
    obtain ⟨k, hk, rfl, rfl, hb, ho⟩ := hrel
    by_cases hlt : k < s
    · have hc := own_cell ho _ _ (rputRow_get n s k hlt)
      have hf := own_frozen ho (s - 1 - k)
      have hq : n / 256 ^ k < 18446744073709551616 := Nat.lt_of_le_of_lt (Nat.div_le_self _ _) hn
      have hst := Lib.hid (RPutRel.step hlt hb ho)
      clear ho hb
      generalize n / 256 ^ k = q at *
      have e1 : ((s : Int) - 1 - k).toNat = s - 1 - k := by omega
      go_wp2
      exact ⟨hst.out, by simp [intOf]; omega⟩
    · obtain rfl : k = s := by omega
      rw [rputRow_full] at ho
      go_wp2
      go_ret
      exact ⟨_, rfl, hb, ho⟩

theorem put_bad (n s : Int) (h : s < 1 ∨ 8 < s) (w : World) :
    Calls Tryz.prog 285 #[.int .u64 n, .int .i64 s] w fun e w' => e = .returned (.slice none 0 0) ∧ w' = w := by
  by_cases a1 : 1 ≤ s
  · have a2 : ¬ s ≤ 8 := by omega
    clear h
    go_enter Tryz.func285, Tryz.ntmps285
    go_wp2
    go_ret
    exact ⟨rfl, rfl⟩
  · clear h
    go_enter Tryz.func285, Tryz.ntmps285
    go_wp2
    go_ret
    exact ⟨rfl, rfl⟩

theorem rput_bad (n s : Int) (h : s < 1 ∨ 8 < s) (w : World) :
    Calls Tryz.prog 177 #[.int .u64 n, .int .i64 s] w fun e w' => e = .returned (.slice none 0 0) ∧ w' = w := by
  by_cases a1 : 1 ≤ s
  · have a2 : ¬ s ≤ 8 := by omega
    clear h
    go_enter Tryz.func177, Tryz.ntmps177
    go_wp2
    go_ret
    exact ⟨rfl, rfl⟩
  · clear h
    go_enter Tryz.func177, Tryz.ntmps177
    go_wp2
    go_ret
    exact ⟨rfl, rfl⟩
def beI (n : Nat) (s : Int) : List UInt8 := if 1 ≤ s ∧ s ≤ 8 then be n s.toNat else []
theorem put_all (n : Nat) (hn : n < 18446744073709551616) (s : Int) (w : World) :
    Calls Tryz.prog 285 #[.int .u64 n, .int .i64 s] w fun e w' => ∃ v, e = .returned v ∧ Below w.heap.size w w' ∧ IsBytes w' v (beI n s) := by
  by_cases h : 1 ≤ s ∧ s ≤ 8
  · obtain ⟨k, rfl⟩ := Int.eq_ofNat_of_zero_le (show 0 ≤ s by omega)
    have hk : beI n (k : Int) = be n k := by unfold beI; rw [if_pos h]; rfl
    rw [hk]
    refine (put_any n hn k (by omega) (by omega) w).mono ?_
    rintro e w' ⟨v, rfl, hb, ho⟩
    exact ⟨v, rfl, hb, own_bytes ho⟩
  · have hk : beI n s = [] := by unfold beI; rw [if_neg h]
    rw [hk]
    refine (put_bad n s (by omega) w).mono ?_
    rintro e w' ⟨rfl, rfl⟩
    exact ⟨_, rfl, Below.refl _ _, .nil _⟩
theorem rput_all (n : Nat) (hn : n < 18446744073709551616) (s : Int) (w : World) :
    Calls Tryz.prog 177 #[.int .u64 n, .int .i64 s] w fun e w' => ∃ v, e = .returned v ∧ Below w.heap.size w w' ∧ IsBytes w' v (beI n s) := by
  by_cases h : 1 ≤ s ∧ s ≤ 8
  · obtain ⟨k, rfl⟩ := Int.eq_ofNat_of_zero_le (show 0 ≤ s by omega)
    have hk : beI n (k : Int) = be n k := by unfold beI; rw [if_pos h]; rfl
    rw [hk]
    refine (rput_any n hn k (by omega) (by omega) w).mono ?_
    rintro e w' ⟨v, rfl, hb, ho⟩
    exact ⟨v, rfl, hb, own_bytes ho⟩
  · have hk : beI n s = [] := by unfold beI; rw [if_neg h]
    rw [hk]
    refine (rput_bad n s (by omega) w).mono ?_
    rintro e w' ⟨rfl, rfl⟩
    exact ⟨_, rfl, Below.refl _ _, .nil _⟩

end Go.Proofs.YtdlomggjhclmlaaGreatDoor

namespace Go.Proofs.YtdlomggjhclmlaaGreatDoor
set_option linter.unusedSimpArgs false
set_option linter.unusedVariables false
open Go.RowKit
set_option maxRecDepth 10000

/-- 'append(nil, make([]T, n)...)', n above 0 -/
theorem run_append_make_nil {P : Program} (w : World) (t u ty e : TypeId) (i : TypeInfo) (z : Value) {k : IntKind} (ht : P.underlying t = some (.slice e)) (hu : P.underlying u = some (.int k)) (hi : P.info? e = some i) (hz : i.zero = some z)
    (n : Nat) (h0 : 0 < n) (h63 : (n : Int) ≤ 9223372036854775807) (h48 : n * i.bytes ≤ 281474976710656) (hs : 0 < i.size) :
    (Builtin.append_ #[t, u] ty #[.slice none 0 0, .int .i64 n]).run P w =
      .ok (.slice (some ⟨w.heap.size, 0, none⟩) n (grownCap w n 0 e))
        (w.drew.alloc (.cells (Builtin.zeroCells z.cells n ++ Builtin.zeroCells z.cells (grownCap w n 0 e - n)) e)) := by
  have hn : n ≠ 0 := by omega
  have h63' : ¬ (9223372036854775807 < (n : Int)) := by omega
  have h48' : ¬ (281474976710656 < Builtin.nextslicecap n 0 * i.bytes) := by rw [nextslicecap_zero h0]; omega
  have hw : IntKind.i64.wrap (n : Int) = n := by rw [IntKind.wrap_i64]; omega
  have hneg : ¬ ((n : Int) < 0) := by omega
  have hb : ¬ (281474976710656 < (n : Int) * (i.bytes : Int)) := by
    rw [← Int.natCast_mul]; omega
  have hz' : n * i.size ≠ 0 := Nat.mul_ne_zero hn (by omega)
  simp [Builtin.append_, run_underlying ht, run_underlying hu, sizeOf, typeInfo, zeroValue, hi, hz, asInt, asIntOf, Builtin.firstCells, hw, hneg, hb, hn, h63', h48', hz', Question.forced, newRow, grownCap]

/-- behind Grow: a row of no element with room -/
theorem wpList_append_make_nil {P : Program} {w : World} {ops : Array Oper} {rest : List Oper} {o : Oper} {a : Act} {Q : Exit → Act → World → Prop} (hgd : o.guard = none) (s x : Operand) (t u : TypeId)
    (ho : o.op = .call { callee := .builtin .append, args := #[s, x], argTypes := #[t, u] })
    {e : TypeId} {size bytes : Nat} {z : Value} (hE : ElemOf P t e size bytes z) {k : IntKind} (hu : P.underlying u = some (.int k))
    (hs : a.eval s = .slice none 0 0) {n : Nat} (hx : a.eval x = .int .i64 n) (h0 : 0 < n) (hb : n * bytes ≤ 140737488355328)
    (h : ∀ cap w', n ≤ cap → w'.ownsRow w.heap.size e size (.slice (some ⟨w.heap.size, 0, none⟩) 0 cap) 0 [] → Below w.heap.size w w' → wpList P ops Q rest (a.put o.dst (.slice (some ⟨w.heap.size, 0, none⟩) n cap)) w') : wpList P ops Q (o :: rest) a w := by
  obtain ⟨ht, ⟨i, hi, hz, rfl, rfl⟩, hzs, hpos, hone⟩ := hE
  have hn : n ≤ 140737488355328 := Nat.le_trans (Nat.le_mul_of_pos_right n hone) hb
  have hr := run_append_make_nil (P := P) w t u o.type e i z ht hu hi hz n h0 (by omega) (by omega) hpos
  refine wpList_plain hgd fun K hK => ?_
  unfold Oper.wp execOp
  simp only [ho, resolve, invoke, builtin, Sem.run_bind, Sem.run_pure, Result.andThen_ok, List.map_toArray, List.map_cons, List.map_nil, hs, hx, hr]
  refine hK _ _ (h _ _ (grownCap_ge w n 0 e) ⟨by simp, .inr ⟨w.heap.size, _, _, rfl, Nat.le_refl _, heap_alloc_new w.drew _, Nat.zero_le _, grownCap_le_maxLen w n 0 e (by unfold maxLen; omega), ?_, by simp⟩⟩ ((Below.refl w.heap.size w).drew.alloc (by simp) _))
  have := grownCap_ge w n 0 e
  simp only [Array.size_append, size_zeroCells, hzs, ← Nat.add_mul]
  congr 1
  omega

theorem grow_nil (n : Nat) (hn : n ≤ 140737488355328) (w : World) :
    Calls Tryz.prog 348 #[.slice none 0 0, .int .i64 n] w fun e w' => ∃ v, e = .returned v ∧ Below w.heap.size w w' ∧ w'.ownsRow w.heap.size 5 1 v 0 [] := by
  have h0 : (0 : Int) ≤ n := by omega
  by_cases hp : n = 0
  · subst hp
    go_enter Tryz.func348, Tryz.ntmps348
    go_wp2
    go_ret
    exact ⟨_, rfl, Below.refl _ _, World.ownsRow_nil _ _ _ _⟩
  · have hp' : (0 : Int) < n := by omega
    go_enter Tryz.func348, Tryz.ntmps348
    go_wp2_with (at_builtin; go_loud (refine wpList_append_make_nil rfl _ _ _ _ rfl el_u8 (k := .i64) (by kernel_rfl) rfl (n := n) rfl (by omega) (by omega) ?_))
    intro cap w' hc ho hb
    have hc' : (n : Int) ≤ cap := by omega
    go_wp2
    go_ret
    exact ⟨_, rfl, hb, ho⟩

/-- v is a slice that is not nil, of slices of bytes that read as ls -/
def IsRows (w : World) (v : Value) (ls : List (List UInt8)) : Prop :=
  ∃ x c, v = .slice (some x) ls.length c ∧ ∀ i l, ls[i]? = some l → ∃ u, w.cell? (x.add i) = some u ∧ IsBytes w u l

def cut (ls : List (List UInt8)) (i : Nat) : List UInt8 := (ls.take i).flatten
theorem cut_step {ls : List (List UInt8)} {i : Nat} {l : List UInt8} (h : ls[i]? = some l) : cut ls (i + 1) = cut ls i ++ l := by
  unfold cut
  rw [List.take_add_one, h]; simp
theorem cut_all (ls : List (List UInt8)) : cut ls ls.length = ls.flatten := by unfold cut; rw [List.take_length]
theorem cut_le (ls : List (List UInt8)) (i : Nat) : (cut ls i).length ≤ ls.flatten.length := by
  have h : ls.flatten = cut ls i ++ (ls.drop i).flatten := by unfold cut; rw [← List.flatten_append, List.take_append_drop]
  rw [h, List.length_append]; omega
def CatRel1 (w : World) (ls : List (List UInt8)) (n i : Value) (wr : World) : Prop :=
  ∃ k : Nat, k ≤ ls.length ∧ i = .int .i64 k ∧ n = .int .i64 (cut ls k).length ∧ w = wr
def CatRel2 (w : World) (ls : List (List UInt8)) (v i : Value) (wr : World) : Prop :=
  ∃ k : Nat, k ≤ ls.length ∧ i = .int .i64 k ∧ Below w.heap.size w wr ∧ wr.ownsRow w.heap.size 5 1 v (cut ls k).length ((cut ls k).map bv)

theorem concat_any (v : Value) (ls : List (List UInt8)) (hs : ls.flatten.length ≤ 140737488355328) (hk : ls.length ≤ 64) (w : World) (hv : IsRows w v ls) :
    Calls Tryz.prog 290 #[v] w fun e w' => ∃ v, e = .returned v ∧ Below w.heap.size w w' ∧ w'.ownsRow w.heap.size 5 1 v ls.flatten.length (ls.flatten.map bv) := by
  obtain ⟨x, c, rfl, hv⟩ := hv
  have Hv := Lib.hid hv
  clear hv
  go_enter Tryz.func290, Tryz.ntmps290
  go_wp2
  go_loopw [3, 11] (fun n i wr => CatRel1 w ls n i wr) (fun _ i _ => ls.length - (intOf i).toNat)
  case atStart => exact ⟨0, Nat.zero_le _, rfl, by simp [cut], rfl⟩
  case round =>
    obtain ⟨k, hk', rfl, rfl, rfl⟩ := hrel
    by_cases hlt : k < ls.length
    · obtain ⟨u, hc, hu⟩ := Hv.out k _ (List.getElem?_eq_getElem hlt)
      obtain ⟨a, cap, rfl, h1, h2⟩ := hu.shape
      have hst := Lib.hid (cut_step (List.getElem?_eq_getElem hlt))
      have hle := cut_le ls (k + 1)
      rw [hst.out, List.length_append] at hle
      have hlt' : (k : Int) < ls.length := by omega
      clear hu
      generalize hm : (ls[k]'hlt).length = m at *
      have Hm := Lib.hid hm
      clear hm
      go_wp2
      go_roundw
      case rel => exact ⟨k + 1, hlt, by go_num, by rw [hst.out, List.length_append, Hm.out]; go_num, rfl⟩
      case measure => simp [intOf]; omega
    · obtain rfl : k = ls.length := by omega
      have hn := Lib.hid (cut_all ls)
      rw [hn.out]
      obtain ⟨N, hN⟩ : ∃ N, N = ls.flatten.length := ⟨_, rfl⟩
      rw [← hN] at hs ⊢
      have HN := Lib.hid hN
      clear hN
      have HG := Lib.hid (grow_nil _ hs w)
      go_wp2_with (go_at_call 348; refine HG.out.mono ?_; rintro e w1 ⟨v1, rfl, hb1, ho1⟩)
      have Hb1 := Lib.hid hb1
      have Ho1 := Lib.hid ho1
      clear hb1 ho1
      go_loopw [6, 27] (fun v i w2 => CatRel2 w ls v i w2) (fun _ i _ => ls.length - (intOf i).toNat)
      case atStart => exact ⟨0, Nat.zero_le _, rfl, Hb1.out, by simpa [cut] using Ho1.out⟩
      case round =>
        obtain ⟨k, hk', rfl, hb, ho⟩ := hrel
        by_cases hlt : k < ls.length
        · obtain ⟨u, hc, hu⟩ := Hv.out k _ (List.getElem?_eq_getElem hlt)
          have hst := Lib.hid (cut_step (List.getElem?_eq_getElem hlt))
          have hle := cut_le ls (k + 1)
          rw [hst.out, ← HN.out, List.length_append] at hle
          have hlt' : (k : Int) < ls.length := by omega
          have hc := cell_below hc hb
          have Hsrc := Lib.hid (hu.below hb).src
          have Hb := Lib.hid hb
          have Ho := Lib.hid ho
          clear hu hb ho
          generalize hm : (ls[k]'hlt) = m at *
          clear hm
          have Hle := Lib.hid hle
          clear hle
          go_wp2_with (at_builtin; go_must (refine wpList_append_from rfl _ _ _ rfl (w.heap.size) el_u8 rfl Ho.out rfl Hsrc.out (by have := Hle.out; omega) Hb.out.size ?_); intro v' w' ho' hg' hb')
          go_roundw
          case rel => exact ⟨k + 1, hlt, by go_num, Hb.out.trans hb', by rw [hst.out, List.length_append, List.map_append]; exact ho'⟩
          case measure => simp [intOf]; omega
        · obtain rfl : k = ls.length := by omega
          have Hb := Lib.hid hb
          rw [hn.out, ← HN.out] at ho
          have Ho := Lib.hid ho
          clear hb ho
          go_wp2
          go_ret
          rw [← HN.out]
          exact ⟨_, rfl, Hb.out, Ho.out⟩
end Go.Proofs.YtdlomggjhclmlaaGreatDoor

namespace Go.Proofs.YtdlomggjhclmlaaGreatDoor
set_option linter.unusedSimpArgs false
set_option linter.unusedVariables false
open Go.RowKit
set_option maxRecDepth 10000
noncomputable section
def growS : Spec := fun args h => match args with
  | [.sc _ (.slice none 0 0), .sc kn (.int .i64 n)] => need kn (decide (0 ≤ n ∧ n ≤ 140737488355328)) 440 (.ok (newVec true [.int .u8] (.l []) 5 h))
  | _ => .bad 441
theorem grow_soundF : SoundF Tryz.prog 348 growS := by
  intro args h K H w0 G E w vals I hr
  unfold growS at H
  split at H
  · rename_i k kn n
    obtain ⟨hc, H2⟩ := need_holds H
    clear H
    obtain ⟨h0, h1⟩ := of_decide_eq_true hc
    obtain ⟨u, r, rfl, hu, v, r', rfl, hv, hr'⟩ := hr
    have hr' : r' = [] := hr'
    subst hr'
    obtain rfl : u = .slice none 0 0 := hu.1
    obtain rfl := rel_int hv
    obtain ⟨m, rfl⟩ := Int.eq_ofNat_of_zero_le h0
    have hl : (D.l []).len = 0 := by simp [D.len, D.toL, D.raw]
    refine (grow_nil m (by omega) w).mono ?_
    rintro e w' ⟨v, rfl, hb, ho⟩
    obtain ⟨E', S, hR⟩ := own_vecE (kn := true) (e := 5) (es := [.int .u8]) (d := .l []) (news := []) I (by kernel_rfl) hb (by rw [hl]; exact ho) (by simp) (by rw [hl, Nat.zero_mul]; exact Nat.zero_le _) (fun i hi => by rw [hl] at hi; omega)
    exact ⟨_, _, v, E', H2, rfl, S, hR⟩
  · exact H.elim
end
end Go.Proofs.YtdlomggjhclmlaaGreatDoor

namespace Go.Proofs.YtdlomggjhclmlaaGreatDoor
set_option linter.unusedSimpArgs false
set_option linter.unusedVariables false
open Go.RowKit
set_option maxRecDepth 100000
noncomputable section

-- DEFS
/-- a copy in a row of one's own, that may change -/
abbrev opS : List Sh := [.int .i64, .sl [.int .u8]]
def cloneRowS : Spec := fun args h => match args with
  | [.sl kn es d _] => bif Sh.eqsL es opS then brk kn (decide (d.len = 0)) (.ok (.sl true opS (.l []) none, h)) (.ok (.rsl kn h.nx 2 d.len, (newA [.rw opS d] h).2)) else .bad 214
  | [.sc _ (.slice none 0 0)] => .ok (.sl true opS (.l []) none, h)
  | _ => .bad 215
-- END
theorem el_opt : ElemOf Tryz.prog 59 488 2 32 (.agg #[.int .i64 0, .slice none 0 0]) := ⟨by kernel_rfl, ⟨_, rfl, rfl, rfl, rfl⟩, rfl, by decide, by decide⟩
theorem eqlo_nil {w : World} {t e : TypeId} {a : Option Addr} {n c : Nat} (h : Tryz.prog.underlying t = some (.slice e)) : (binOp .eql t (.slice a n c) (.slice none 0 0)).run Tryz.prog w = .ok (.bool a.isNone) w :=
  Lib.run_eql_slice_nil w t e a n c 0 0 h
theorem srcO_alloc {w : World} {size : Nat} {v : Value} {n : Nat} {xs : List Value} (h : SrcOf w size v n xs) (x : Obj) : SrcOf (w.alloc x) size v n xs := h.alloc x
/-- a copy of a row that is not nil -/
theorem clone_opt (ad : Addr) (n cap : Nat) (xs : List Value) (w : World) (hs : SrcOf w 2 (.slice (some ad) n cap) n xs) (hn : n * 32 ≤ 140737488355328) :
    Calls Tryz.prog 403 #[.slice (some ad) n cap] w fun e w' => ∃ v', e = .returned v' ∧ Below w.heap.size w w' ∧ w'.ownsRow w.heap.size 488 2 v' n xs := by
  have hq : ∀ W, (binOp .eql 59 (.slice (some ad) n cap) (.slice none 0 0)).run Tryz.prog W = .ok (.bool false) W := fun W => eqlo_nil el_opt.ht
  have Hsrc := Lib.hid (srcO_alloc hs (.cells #[] 488))
  have Hown := Lib.hid (own_empty w w.heap.size (Nat.le_refl _) 488 2)
  go_enter Tryz.func403, Tryz.ntmps403
  go_wp2_with (at_builtin; go_must (refine wpList_append_from rfl _ _ _ rfl w.heap.size el_opt rfl Hown.out rfl Hsrc.out (by omega) (by simp) ?_); intro v' w' ho hg hb)
  refine bodyPost_ret (v := v') (by simp [results, Tryz.results403, go_sem]) rfl ⟨_, rfl, ((Below.refl _ _).alloc (Nat.le_refl _) _).trans hb, ?_⟩
  simpa using ho
theorem clone_optN (w : World) :
    Calls Tryz.prog 403 #[.slice none 0 0] w fun e w' => e = .returned (.slice none 0 0) ∧ w' = w := by
  have hq : ∀ W, (binOp .eql 59 (.slice none 0 0) (.slice none 0 0)).run Tryz.prog W = .ok (.bool true) W := fun W => eqlo_nil el_opt.ht
  go_enter Tryz.func403, Tryz.ntmps403
  go_wp2
  exact bodyPost_ret (v := .slice none 0 0) (by simp [results, Tryz.results403, go_sem]) rfl ⟨rfl, rfl⟩
theorem lf_empty {Z : Nat → Nat → Option Value} {es : List Sh} {w : World} {base e sz : Nat} {v : Value} {xs : List Value} (h : w.ownsRow base e sz v 0 xs) : LF Z (.sl es) v (.l []) := by
  have h0 : (D.l []).len = 0 := by simp [D.len, D.toL, D.raw]
  rcases h.2 with ⟨rfl, _⟩ | ⟨g, cap, cur, rfl, _, _, _, hcm, _⟩
  · exact ⟨by rw [h0, Nat.zero_mul]; exact Nat.zero_le _, none, 0, by rw [h0], by rw [h0]; exact Nat.le_refl _, Nat.zero_le _, fun _ => rfl, fun hn => absurd h0 hn⟩
  · exact ⟨by rw [h0, Nat.zero_mul]; exact Nat.zero_le _, some ⟨g, 0, none⟩, cap, by rw [h0], by rw [h0]; exact Nat.zero_le _, hcm, (fun h => by cases h), fun hn => absurd h0 hn⟩
theorem cloneRow_soundF : SoundF Tryz.prog 403 cloneRowS := by
  intro args h K H w0 G E w vals I hr
  unfold cloneRowS at H
  split at H
  · rename_i kn es d tip
    cases hes : Sh.eqsL es opS
    · rw [hes] at H; exact H.elim
    rw [hes] at H
    simp only [cond_true] at H
    obtain rfl := Sh.eqsL_eq _ _ hes
    obtain ⟨v, vs', rfl, ⟨hl, _⟩, h3⟩ := hr
    have h3' : vs' = [] := h3
    subst h3'
    obtain ⟨news, hsrc, hnl, hone, hrest⟩ := slice_cells I hl
    obtain ⟨hbd, ad, cap, rfl, h1, h2, h3, h4⟩ := hl
    have hbd' : d.len * 32 ≤ 140737488355328 := by
      have : d.len * 32 ≤ 140737488355328 := hbd
      omega
    rcases brk_holds H with ⟨h0, H⟩ | ⟨h0, H⟩
    · have h0 := of_decide_eq_true h0
      cases ad with
      | none =>
        have hc := h3 rfl
        rw [h0, hc]
        refine (clone_optN w).mono ?_
        rintro e w' ⟨rfl, rfl⟩
        refine ⟨_, h, _, E, H, rfl, Stepd.refl I, ⟨?_, trivial⟩⟩
        have h0' : (D.l []).len = 0 := by simp [D.len, D.toL, D.raw]
        exact ⟨by rw [h0', Nat.zero_mul]; exact Nat.zero_le _, none, 0, by rw [h0'], by rw [h0']; exact Nat.le_refl _, Nat.zero_le _, fun _ => rfl, fun hn => absurd h0' hn⟩
      | some ad =>
        refine (clone_opt ad d.len cap news w hsrc hbd').mono ?_
        rintro e w' ⟨v', rfl, hb, ho⟩
        rw [h0] at ho
        exact ⟨_, h, v', _, H, rfl, I.fresh hb, lf_empty ho, trivial⟩
    · have h0 := of_decide_eq_false h0
      obtain ⟨b, o, ⟨n', c', hv⟩, hel, hz⟩ := hrest h0
      cases ad with
      | none => cases hv
      | some ad =>
        refine (clone_opt ad d.len cap news w hsrc hbd').mono ?_
        rintro e w' ⟨v', rfl, hb, ho⟩
        have hre : ∀ i, i < d.len → RE E.Z opS news.toArray (i * opS.length) (d.get i) 0 := fun i hi => by
          refine el_re hz ?_ (hel i hi)
          have := Nat.mul_le_mul_right opS.length (show i + 1 ≤ d.len by omega)
          rw [Nat.add_mul, Nat.one_mul] at this
          rw [hnl]; omega
        obtain ⟨E', S, hv'⟩ := own_rowE (kn := kn) (es := opS) (d := d) I hb ho h0 hbd hre
        exact ⟨_, _, v', E', H, rfl, S, hv'⟩
  · obtain ⟨v, vs', rfl, ⟨rfl, _⟩, h3⟩ := hr
    have h3' : vs' = [] := h3
    subst h3'
    refine (clone_optN w).mono ?_
    rintro e w' ⟨rfl, rfl⟩
    refine ⟨_, h, _, E, H, rfl, Stepd.refl I, ⟨?_, trivial⟩⟩
    have h0' : (D.l []).len = 0 := by simp [D.len, D.toL, D.raw]
    exact ⟨by rw [h0', Nat.zero_mul]; exact Nat.zero_le _, none, 0, by rw [h0'], by rw [h0']; exact Nat.le_refl _, Nat.zero_le _, fun _ => rfl, fun hn => absurd h0' hn⟩
  · exact H.elim
end
end Go.Proofs.YtdlomggjhclmlaaGreatDoor
