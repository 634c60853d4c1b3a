/- MpA: texts of this claim, one behind the other: Put Srv. No condition. -/
import Derived.Test.YtomblhnchdokmaaGreatDoorProg
import Derived.Test.YtomblhnchdokmaaGreatDoorMp1
import Derived.Test.YtomblhnchdokmaaGreatDoorMp8
import Derived.WalkLawsBesides
import Derived.WalkSpells
import Derived.Deep.QuietTactic
namespace Go.Proofs.YtomblhnchdokmaaGreatDoor
set_option linter.unusedSimpArgs false
set_option linter.unusedVariables false
open Go.RowKit
set_option maxRecDepth 10000
def putCell (n k j : Nat) : Value := if 8 - k ≤ j then .int .u8 ((n : Int) / 2 ^ (8 * (7 - j)) % 256) else .int .u8 0
def putArr (n k : Nat) : Array Value := #[putCell n k 0, putCell n k 1, putCell n k 2, putCell n k 3, putCell n k 4, putCell n k 5, putCell n k 6, putCell n k 7]
theorem putArr_get (n k j : Nat) (h : j < 8) : (putArr n k)[j]? = some (putCell n k j) := by
  rcases (by omega : j = 0 ∨ j = 1 ∨ j = 2 ∨ j = 3 ∨ j = 4 ∨ j = 5 ∨ j = 6 ∨ j = 7) with rfl | rfl | rfl | rfl | rfl | rfl | rfl | rfl <;> rfl
theorem putArr_set (n k : Nat) (h : k < 8) : (putArr n k).setIfInBounds (7 - k) (.int .u8 ((n : Int) / 2 ^ (8 * k) % 256)) = putArr n (k + 1) := by
  rcases (by omega : k = 0 ∨ k = 1 ∨ k = 2 ∨ k = 3 ∨ k = 4 ∨ k = 5 ∨ k = 6 ∨ k = 7) with rfl | rfl | rfl | rfl | rfl | rfl | rfl | rfl <;> rfl
theorem el_u8 : ElemOf Tryz.prog 25 5 1 1 (.int .u8 0) := ⟨by kernel_rfl, ⟨_, rfl, rfl, rfl, rfl⟩, rfl, by decide, by decide⟩

def beByte (n i : Nat) : UInt8 := UInt8.ofNat (n / 2 ^ (8 * i))
/-- the lowest 'size' bytes of n, the highest first -/
def be (n size : Nat) : List UInt8 := (List.range size).map fun i => beByte n (size - 1 - i)

theorem beByte_int (n i : Nat) : ((n : Int) / 2 ^ (8 * i) % 256) = ((beByte n i).toNat : Int) := by
  simp [beByte]

theorem putCell_be (n j : Nat) : putCell n 8 j = bv (beByte n (7 - j)) := by
  unfold putCell
  rw [if_pos (by omega), beByte_int]

theorem put_src (n s : Nat) (hs1 : 1 ≤ s) (hs8 : s ≤ 8) (w : World) (o : Obj) : SrcOf ((w.alloc (.cells (putArr n 8) 242)).alloc o) 1 (.slice (some ⟨w.heap.size, 8 - s, none⟩) (8 - (8 - s)) (8 - (8 - s))) s ((be n s).map bv) := by
  rw [show 8 - (8 - s) = s by omega]
  refine .inr ⟨_, _, rfl, by simp [be], ?_, ?_⟩
  · intro j u hu
    rw [List.getElem?_map] at hu
    by_cases hj : j < s
    · simp [be, hj] at hu
      subst hu
      have : (⟨w.heap.size, 8 - s, none⟩ : Addr).add j = ⟨w.heap.size, 8 - s + j, none⟩ := by
        unfold Addr.add; split <;> simp_all
      rw [this]
      have hc := putArr_get n 8 (8 - s + j) (by omega)
      rw [putCell_be, show 7 - (8 - s + j) = s - 1 - j by omega] at hc
      refine (World.cell?_alloc_lt _ _ _ (by show w.heap.size < _; rw [World.size_alloc]; omega)).trans ?_
      rw [cell_of_row (w.alloc (.cells (putArr n 8) 242)) w.heap.size _ (putArr n 8) 242 (0, 0) (heap_alloc_new _ _)]
      exact hc
    · simp [be, hj] at hu
  · intro u hu
    obtain ⟨_, _, rfl⟩ := List.mem_map.1 hu
    rfl

theorem put_any (n : Nat) (_hn : n < 18446744073709551616) (s : Nat) (h1 : 1 ≤ s) (h8 : s ≤ 8) (w : World) :
    Calls Tryz.prog 106 #[.int .u64 n, .int .i64 s] w fun e w' => ∃ v, e = .returned v ∧ Below w.heap.size w w' ∧ w'.ownsRow w.heap.size 5 1 v s ((be n s).map bv) := by
  have i1 : (1 : Int) ≤ s := by omega
  have i2 : (s : Int) ≤ 8 := by omega
  go_enter Tryz.func106, Tryz.ntmps106
  go_wp2
  go_loopw [6, 10] (fun _ i wr => ∃ k : Nat, k ≤ 8 ∧ i = .int .i64 k ∧ wr = w.alloc (.cells (putArr n k) 242)) (fun _ i _ => 8 - (intOf i).toNat)
  case atStart => exact ⟨0, by omega, rfl, rfl⟩
  case round =>
    obtain ⟨k, hk, rfl, rfl⟩ := hrel
    by_cases hlt : k < 8
    · have g := putArr_get n k (7 - k) (by omega)
      have s := Lib.hid (putArr_set n k hlt)
      go_wp2
      rw [s.out]
      go_roundw
      case rel => exact ⟨k + 1, by omega, by go_num, rfl⟩
      case measure => simp [intOf]; omega
    · obtain rfl : k = 8 := by omega
      have hsrc := Lib.hid (put_src n s h1 h8 w (.cells #[] 5))
      generalize hp : putArr n 8 = arr at hsrc
      have Hp := Lib.hid hp
      clear hp
      have hown : ((w.alloc (.cells arr 242)).alloc (.cells #[] 5)).ownsRow w.heap.size 5 1 (.slice (some ⟨w.heap.size + 1, 0, none⟩) 0 0) 0 [] := by
        have := World.ownsRow_made (w.alloc (.cells arr 242)) (base := w.heap.size) (e := 5) (size := 1) #[] 0 (by simp) (by simp) (by simp)
        rw [World.size_alloc] at this
        exact this
      have hown := Lib.hid hown
      have hA : Tryz.prog.arrayLen 242 = 8 := by kernel_rfl
      have h8' : (8 : Int) - s ≤ 8 := by omega
      have h0' : (0 : Int) ≤ 8 - s := by omega
      have hx : 8 - (8 - (s : Int)).toNat = s := by omega
      have hx2 : (8 - (s : Int)).toNat = 8 - s := by omega
      go_wp2_with (at_builtin; go_loud (refine wpList_append_from rfl _ _ _ rfl (w.heap.size) el_u8 rfl hown.out rfl hsrc.out ?c4 ?c5 ?_))
      case c4 => simp; omega
      case c5 => simp; omega
      intro v' w' ho hg hb
      go_wp2
      go_ret
      exact ⟨_, rfl, (((Below.refl _ _).alloc (Nat.le_refl _) _).alloc (by simp) _).trans hb, ho⟩
/-- what lies in the row behind k rounds of the reference's Put: the last k bytes -/
def rputRow (n s k : Nat) : List UInt8 := (List.range s).map fun i => if s - k ≤ i then beByte n (s - 1 - i) else 0
theorem rputRow_zero (n s : Nat) : (rputRow n s 0).map bv = (madeCells #[.int .u8 0] (s * 1)).toList := by
  rw [Nat.mul_one, toList_madeCells_one]
  apply List.ext_getElem
  · simp [rputRow]
  · intro i h1 h2
    simp [rputRow] at h1 ⊢
    rw [if_neg (by omega)]; rfl
theorem rputRow_set (n s k : Nat) (h : k < s) : ((rputRow n s k).map bv).set (s - 1 - k) (bv (beByte n k)) = (rputRow n s (k + 1)).map bv := by
  apply List.ext_getElem
  · simp [rputRow]
  · intro i h1 h2
    simp [rputRow] at h1 h2
    simp only [rputRow, List.map_map, List.getElem_set, List.getElem_map, List.getElem_range, Function.comp]
    by_cases he : s - 1 - k = i
    · rw [if_pos he, if_pos (by omega), show s - 1 - i = k by omega]
    · rw [if_neg he]
      by_cases hk : s - k ≤ i
      · rw [if_pos hk, if_pos (by omega)]
      · rw [if_neg hk, if_neg (by omega)]
theorem rputRow_get (n s k : Nat) (h : k < s) : ((rputRow n s k).map bv)[s - 1 - k]? = some (bv 0) := by
  rw [List.getElem?_eq_getElem (by simp [rputRow]; omega)]
  simp [rputRow]
  rw [if_neg (by omega)]; rfl
theorem rputRow_full (n s : Nat) : rputRow n s s = be n s := by
  simp [rputRow, be]

def RPutRel (w : World) (n s : Nat) (p i : Value) (wr : World) : Prop :=
  ∃ k : Nat, k ≤ s ∧ i = .int .i64 k ∧ p = .int .u64 ((n / 256 ^ k : Nat) : Int) ∧ Below w.heap.size w wr ∧ wr.ownsRow w.heap.size 5 1 (.slice (some ⟨w.heap.size, 0, none⟩) s s) s ((rputRow n s k).map bv)

theorem RPutRel.step {w wr : World} {n s k : Nat} (hk : k < s) (hb : Below w.heap.size w wr) (ho : wr.ownsRow w.heap.size 5 1 (.slice (some ⟨w.heap.size, 0, none⟩) s s) s ((rputRow n s k).map bv)) :
    RPutRel w n s (.int .u64 (((n / 256 ^ k : Nat) : Int) / 256)) (.int .i64 ((k : Int) + 1)) (wr.setCell ⟨w.heap.size, s - 1 - k, none⟩ (.int .u8 (((n / 256 ^ k : Nat) : Int) % 256))) := by
  refine ⟨k + 1, hk, by simp, ?_, hb.setCell (Nat.le_refl _) _, ?_⟩
  · rw [Nat.pow_succ, ← Nat.div_div_eq_div_mul]; simp
  · have := own_set ho (s - 1 - k) (bv (beByte n k))
    rw [rputRow_set n s k hk] at this
    have e : ((n / 256 ^ k : Nat) : Int) % 256 = ((beByte n k).toNat : Int) := by
      rw [beByte, show (2 : Nat) ^ (8 * k) = 256 ^ k by rw [Nat.pow_mul]]
      simp
    rw [e]
    exact this

theorem rput_any (n : Nat) (hn : n < 18446744073709551616) (s : Nat) (h1 : 1 ≤ s) (h8 : s ≤ 8) (w : World) :
    Calls Tryz.prog 121 #[.int .u64 n, .int .i64 s] w fun e w' => ∃ v, e = .returned v ∧ Below w.heap.size w w' ∧ w'.ownsRow w.heap.size 5 1 v s ((be n s).map bv) := by
  have i1 : (1 : Int) ≤ s := by omega
  have i2 : (s : Int) ≤ 8 := by omega
  obtain ⟨w1, hmk, hown, hbel, hsz⟩ := run_make_own_full el_u8 w w.heap.size .i64 .i64 s (by omega) (by unfold maxLen; omega) (Nat.le_refl _)
  have Hown := Lib.hid hown
  have Hsz := Lib.hid hsz
  have Hbel := Lib.hid hbel
  clear hown hsz hbel
  go_enter Tryz.func121, Tryz.ntmps121
  go_wp2
  go_loopw [0, 6] (fun p i wr => RPutRel w n s p i wr) (fun _ i _ => s - (intOf i).toNat)
  case atStart => exact ⟨0, Nat.zero_le _, rfl, by simp, Hbel.out, by rw [rputRow_zero]; exact Hown.out⟩
  case round =>
    obtain ⟨k, hk, rfl, rfl, hb, ho⟩ := hrel
    by_cases hlt : k < s
    · have hc := own_cell ho _ _ (rputRow_get n s k hlt)
      have hf := own_frozen ho (s - 1 - k)
      have hq : n / 256 ^ k < 18446744073709551616 := Nat.lt_of_le_of_lt (Nat.div_le_self _ _) hn
      have hst := Lib.hid (RPutRel.step hlt hb ho)
      clear ho hb
      generalize n / 256 ^ k = q at *
      have e1 : ((s : Int) - 1 - k).toNat = s - 1 - k := by omega
      go_wp2
      exact ⟨hst.out, by simp [intOf]; omega⟩
    · obtain rfl : k = s := by omega
      rw [rputRow_full] at ho
      go_wp2
      go_ret
      exact ⟨_, rfl, hb, ho⟩

theorem put_bad (n s : Int) (h : s < 1 ∨ 8 < s) (w : World) :
    Calls Tryz.prog 106 #[.int .u64 n, .int .i64 s] w fun e w' => e = .returned (.slice none 0 0) ∧ w' = w := by
  by_cases a1 : 1 ≤ s
  · have a2 : ¬ s ≤ 8 := by omega
    clear h
    go_enter Tryz.func106, Tryz.ntmps106
    go_wp2
    go_ret
    exact ⟨rfl, rfl⟩
  · clear h
    go_enter Tryz.func106, Tryz.ntmps106
    go_wp2
    go_ret
    exact ⟨rfl, rfl⟩

theorem rput_bad (n s : Int) (h : s < 1 ∨ 8 < s) (w : World) :
    Calls Tryz.prog 121 #[.int .u64 n, .int .i64 s] w fun e w' => e = .returned (.slice none 0 0) ∧ w' = w := by
  by_cases a1 : 1 ≤ s
  · have a2 : ¬ s ≤ 8 := by omega
    clear h
    go_enter Tryz.func121, Tryz.ntmps121
    go_wp2
    go_ret
    exact ⟨rfl, rfl⟩
  · clear h
    go_enter Tryz.func121, Tryz.ntmps121
    go_wp2
    go_ret
    exact ⟨rfl, rfl⟩
def beI (n : Nat) (s : Int) : List UInt8 := if 1 ≤ s ∧ s ≤ 8 then be n s.toNat else []
theorem put_all (n : Nat) (hn : n < 18446744073709551616) (s : Int) (w : World) :
    Calls Tryz.prog 106 #[.int .u64 n, .int .i64 s] w fun e w' => ∃ v, e = .returned v ∧ Below w.heap.size w w' ∧ IsBytes w' v (beI n s) := by
  by_cases h : 1 ≤ s ∧ s ≤ 8
  · obtain ⟨k, rfl⟩ := Int.eq_ofNat_of_zero_le (show 0 ≤ s by omega)
    have hk : beI n (k : Int) = be n k := by unfold beI; rw [if_pos h]; rfl
    rw [hk]
    refine (put_any n hn k (by omega) (by omega) w).mono ?_
    rintro e w' ⟨v, rfl, hb, ho⟩
    exact ⟨v, rfl, hb, own_bytes ho⟩
  · have hk : beI n s = [] := by unfold beI; rw [if_neg h]
    rw [hk]
    refine (put_bad n s (by omega) w).mono ?_
    rintro e w' ⟨rfl, rfl⟩
    exact ⟨_, rfl, Below.refl _ _, .nil _⟩
theorem rput_all (n : Nat) (hn : n < 18446744073709551616) (s : Int) (w : World) :
    Calls Tryz.prog 121 #[.int .u64 n, .int .i64 s] w fun e w' => ∃ v, e = .returned v ∧ Below w.heap.size w w' ∧ IsBytes w' v (beI n s) := by
  by_cases h : 1 ≤ s ∧ s ≤ 8
  · obtain ⟨k, rfl⟩ := Int.eq_ofNat_of_zero_le (show 0 ≤ s by omega)
    have hk : beI n (k : Int) = be n k := by unfold beI; rw [if_pos h]; rfl
    rw [hk]
    refine (rput_any n hn k (by omega) (by omega) w).mono ?_
    rintro e w' ⟨v, rfl, hb, ho⟩
    exact ⟨v, rfl, hb, own_bytes ho⟩
  · have hk : beI n s = [] := by unfold beI; rw [if_neg h]
    rw [hk]
    refine (rput_bad n s (by omega) w).mono ?_
    rintro e w' ⟨rfl, rfl⟩
    exact ⟨_, rfl, Below.refl _ _, .nil _⟩

end Go.Proofs.YtomblhnchdokmaaGreatDoor

namespace Go.Proofs.YtomblhnchdokmaaGreatDoor
set_option linter.unusedSimpArgs false
set_option linter.unusedVariables false
open Go.RowKit
set_option maxRecDepth 10000

theorem ba_self (s : ByteArray) : (s == s) = true := by rw [beq_toListBytes]; exact beq_self_eq_true _
theorem ba_eq {a b : ByteArray} (h : (a == b) = true) : a = b := by
  cases a; cases b
  have h : (_ == _) = true := h
  congr 1
  exact eq_of_beq h
/-! A map from strings to ints, as a list of pairs. -/
def sAt (s : ByteArray) : List (ByteArray × Int) → Nat → Option (Nat × Value)
  | [], _ => none
  | p :: f, i => if (s == p.1) = true then some (i, .int .i64 p.2) else sAt s f (i + 1)
def sVal (s : ByteArray) : List (ByteArray × Int) → Int
  | [] => 0
  | p :: f => if (s == p.1) = true then p.2 else sVal s f
def sUpd (s : ByteArray) (v : Int) : List (ByteArray × Int) → List (ByteArray × Int)
  | [] => [(s, v)]
  | p :: f => if (s == p.1) = true then (s, v) :: f else p :: sUpd s v f
def pairS (p : ByteArray × Int) : Value × Value := (.string p.1, .int .i64 p.2)
def SMap (w : World) (M : Nat) (f : List (ByteArray × Int)) : Prop := ∃ es clock, w.heap[M]? = some (.map es clock) ∧ es.toList.map (fun e => (e.key, e.val)) = f.map pairS
theorem find_now (s : ByteArray) : ∀ (es : List MapEntry) (f : List (ByteArray × Int)) (i : Nat), es.map (fun e => (e.key, e.val)) = f.map pairS → Instr.findNow .string (.string s) es i = some (sAt s f i)
  | [], [], i, _ => rfl
  | [], _ :: _, _, h => by simp at h
  | _ :: _, [], _, h => by simp at h
  | e :: es, p :: f, i, h => by
    simp only [List.map_cons, List.cons.injEq, Prod.mk.injEq, pairS] at h
    obtain ⟨⟨h1, h2⟩, h3⟩ := h
    have ih := find_now s es f (i + 1) (by simpa using h3)
    have hn : Instr.sameNow .string (.string s) e.key = some (s == p.1) := by rw [h1]; rfl
    rw [sAt]
    cases hb : (s == p.1)
    · simp [Instr.findNow, hn, hb, ih]
    · simp [Instr.findNow, hn, hb, h2]
theorem run_findS (w : World) (s : ByteArray) (es : List MapEntry) (f : List (ByteArray × Int)) (h : es.map (fun e => (e.key, e.val)) = f.map pairS) : (Instr.findKey 9 (.string s) es).run Tryz.prog w = .ok (sAt s f 0) w := by
  have hu : Tryz.prog.underlying 9 = some .string := by kernel_rfl
  unfold Instr.findKey
  simp only [Sem.run_bind, run_underlying hu, Result.andThen_ok, find_now s es f 0 h]
  rfl
theorem run_checkS (w : World) (b : Bool) (v : Value) : (Instr.checkKey b 10000 9 v).run Tryz.prog w = .ok () w := run_checkKey_one (P := Tryz.prog) (d := .string) (by kernel_rfl) rfl w b 9999 v
theorem sAt_val (s : ByteArray) : ∀ (f : List (ByteArray × Int)) (i : Nat), sVal s f = match sAt s f i with | some (_, .int _ v) => v | _ => 0
  | [], _ => rfl
  | p :: f, i => by
    rw [sVal, sAt]
    split
    · rfl
    · exact sAt_val s f (i + 1)
theorem sAt_int (s : ByteArray) : ∀ (f : List (ByteArray × Int)) (i j : Nat) (v : Value), sAt s f i = some (j, v) → ∃ d, j = i + d ∧ ∃ p, f[d]? = some p ∧ (s == p.1) = true ∧ v = .int .i64 p.2 ∧ (∀ x, sUpd s x f = f.set d (s, x))
  | [], _, _, _, h => by simp [sAt] at h
  | p :: f, i, j, v, h => by
    rw [sAt] at h
    split at h
    · rename_i hq
      simp only [Option.some.injEq, Prod.mk.injEq] at h
      obtain ⟨rfl, rfl⟩ := h
      exact ⟨0, rfl, p, rfl, hq, rfl, fun x => by rw [sUpd, if_pos hq]; rfl⟩
    · rename_i hq
      obtain ⟨d, h1, p', h2, h3, h4, h5⟩ := sAt_int s f (i + 1) j v h
      exact ⟨d + 1, by omega, p', by simpa using h2, h3, h4, fun x => by rw [sUpd, if_neg hq, h5 x]; rfl⟩
theorem sAt_no (s : ByteArray) : ∀ (f : List (ByteArray × Int)) (i : Nat), sAt s f i = none → ∀ x, sUpd s x f = f ++ [(s, x)]
  | [], _, _, _ => rfl
  | p :: f, i, h, x => by
    rw [sAt] at h
    split at h
    · cases h
    · rename_i hq
      rw [sUpd, if_neg hq, sAt_no s f (i + 1) h x]; rfl
theorem sUpd_val (s : ByteArray) (x : Int) : ∀ f, sVal s (sUpd s x f) = x
  | [] => by simp [sUpd, sVal, ba_self]
  | p :: f => by
    rw [sUpd]
    split
    · simp [sVal, ba_self]
    · rename_i hq
      rw [sVal, if_neg hq]; exact sUpd_val s x f
theorem lookS {w : World} {M : Nat} {f : List (ByteArray × Int)} (h : SMap w M f) (s : ByteArray) : (Instr.lookup 181 (.map (some M)) (.string s) false).run Tryz.prog w = .ok (.int .i64 (sVal s f)) w := by
  obtain ⟨es, clock, hM, hes⟩ := h
  have hu : Tryz.prog.underlying 181 = some (.map 9 3) := by kernel_rfl
  obtain ⟨j, hj, hz⟩ : ∃ j, Tryz.prog.info? 3 = some j ∧ j.zero = some (.int .i64 0) := ⟨_, rfl, rfl⟩
  unfold Instr.lookup
  simp only [Sem.run_bind, run_underlying hu, Result.andThen_ok, run_getMap hM, Sem.run_pure, run_checkS, run_findS w s _ f hes]
  rw [sAt_val s f 0]
  cases hq : sAt s f 0 with
  | none => simp [zeroValue, typeInfo, hj, hz]
  | some p =>
    obtain ⟨i, v⟩ := p
    obtain ⟨d, _, p, _, _, rfl, _⟩ := sAt_int s f 0 i v hq
    simp
theorem updS {w : World} {M : Nat} {f : List (ByteArray × Int)} (h : SMap w M f) (s : ByteArray) (x : Int) : ∃ w', (Instr.mapUpdate 181 (.map (some M)) (.string s) (.int .i64 x)).run Tryz.prog w = .ok () w' ∧ SMap w' M (sUpd s x f) ∧ Kpt w w' (fun k => k = M) := by
  obtain ⟨es, clock, hM, hes⟩ := h
  have hu : Tryz.prog.underlying 181 = some (.map 9 3) := by kernel_rfl
  unfold Instr.mapUpdate
  simp only [Sem.run_bind, run_underlying hu, Result.andThen_ok, run_getMap hM, run_checkS, run_findS w s _ f hes]
  cases hq : sAt s f 0 with
  | none =>
    refine ⟨_, run_setMap hM _ _, ⟨_, _, setOb_at hM _, ?_⟩, kpt_setOb w M _⟩
    rw [sAt_no s f 0 hq x]
    simp [hes, pairS]
  | some p =>
    obtain ⟨i, u⟩ := p
    obtain ⟨d, h1, p, h2, h3, h4, h5⟩ := sAt_int s f 0 i u hq
    obtain rfl : i = d := by omega
    have hsp : s = p.1 := ba_eq h3
    have hk : es[i]?.map (·.key) = some (.string s) := by
      have := congrArg (fun l => (l[i]?).map Prod.fst) hes
      simpa [h2, pairS, hsp] using this
    have hsb : Instr.sameBits 10000 (.string s) (.string s) = true := by simp [Instr.sameBits, ba_self]
    simp only [hk, Option.getD_some, Instr.keyThatStays, hsb, if_true, Sem.run_pure, Result.andThen_ok]
    refine ⟨_, run_setMap hM _ _, ⟨_, _, setOb_at hM _, ?_⟩, kpt_setOb w M _⟩
    rw [h5]
    apply List.ext_getElem?
    intro q
    have hq' := congrArg (fun l => l[q]?) hes
    simp only [List.getElem?_map, Array.getElem?_toList] at hq'
    simp only [List.getElem?_map, Array.getElem?_toList, Array.getElem?_modify, List.getElem?_set]
    by_cases hqi : i = q
    · subst hqi
      have hlt : i < f.length := (List.getElem?_eq_some_iff.1 h2).1
      rw [h2] at hq'
      cases he : es[i]? with
      | none => rw [he] at hq'; simp at hq'
      | some e => simp [hlt, pairS]
    · simp only [hqi, if_false]
      exact hq'
theorem within_any (a b c : Int) (w : World) : Calls Tryz.prog 28 #[.int .i64 a, .int .i64 b, .int .i64 c] w fun e w' => e = .returned (.bool (decide (b ≤ a ∧ a ≤ c))) ∧ w' = w := by
  go_enter Tryz.func28, Tryz.ntmps28
  by_cases h1 : b ≤ a
  · by_cases h2 : a ≤ c
    · go_wp2
      go_ret
      exact ⟨by simp [h1, h2], rfl⟩
    · go_wp2
      go_ret
      exact ⟨by first | (simp; omega) | (simp; intros; omega), rfl⟩
  · go_wp2
    go_ret
    exact ⟨by first | (simp; omega) | (simp; intros; omega), rfl⟩
/-- a service by its place: a name that may be, none ahead is the same -/
def srvP (ss : Nat → ByteArray) (i : Nat) : Bool := decide (1 ≤ (ss i).size ∧ (ss i).size ≤ 64) && sOk (fun k => !((ss i) == (ss k))) i 0
/-- the loop -/
def SRel (w : World) (ss : Nat → ByteArray) (n : Nat) (i : Value) (wr : World) : Prop :=
  ∃ k : Nat, k ≤ n ∧ i = .int .i64 k ∧ Below w.heap.size w wr ∧ SMap wr w.heap.size ((List.range k).map fun j => (ss j, 1)) ∧ ∀ j, j < k → srvP ss j = true
theorem range_val (ss : Nat → ByteArray) (s : ByteArray) : ∀ k, sVal s ((List.range k).map fun j => (ss j, (1 : Int))) = if ∃ j, j < k ∧ (s == ss j) = true then 1 else 0
  | k => by
    have key : ∀ l : List Nat, sVal s (l.map fun j => (ss j, (1 : Int))) = if ∃ j, j ∈ l ∧ (s == ss j) = true then 1 else 0 := by
      intro l
      induction l with
      | nil => simp [sVal]
      | cons a l ih =>
        rw [List.map_cons, sVal]
        split
        · rename_i h
          rw [if_pos ⟨a, by simp, h⟩]
        · rename_i h
          rw [ih]
          by_cases hx : ∃ j, j ∈ l ∧ (s == ss j) = true
          · obtain ⟨j, h1, h2⟩ := hx
            rw [if_pos ⟨j, h1, h2⟩, if_pos ⟨j, by simp [h1], h2⟩]
          · rw [if_neg hx, if_neg]
            rintro ⟨j, h1, h2⟩
            rcases List.mem_cons.1 h1 with rfl | h1
            · exact h h2
            · exact hx ⟨j, h1, h2⟩
    rw [key]
    simp only [List.mem_range]
theorem sUpd_new (s : ByteArray) (x : Int) : ∀ f : List (ByteArray × Int), (∀ p ∈ f, ¬ (s == p.1) = true) → sUpd s x f = f ++ [(s, x)]
  | [], _ => rfl
  | p :: f, h => by
    rw [sUpd, if_neg (h p (by simp)), sUpd_new s x f fun q hq => h q (by simp [hq])]; rfl
theorem below_kpt {a w w' : World} (h : Below a.heap.size a w) {M : Nat} (hM : a.heap.size ≤ M) (hk : Kpt w w' (fun k => k = M)) : Below a.heap.size a w' :=
  ⟨hk.os.trans h.os, hk.tape.trans h.tape, hk.output.trans h.output, Nat.le_trans h.size hk.size, fun k hlt => (hk.block k (Nat.lt_of_lt_of_le hlt h.size) (by show ¬ k = M; omega)).trans (h.block k hlt)⟩
theorem srv_some (ss : Nat → ByteArray) (n cap b o : Nat) (w : World) (hn : n ≤ cap) (hcap : cap ≤ maxLen) (had : ∀ k, k < n → w.cell? ⟨b, o + k, none⟩ = some (.string (ss k))) :
    Calls Tryz.prog 25 #[.slice (some ⟨b, o, none⟩) n cap] w fun e w' => e = .returned (.bool (sOk (srvP ss) n 0 && decide (n ≤ 8))) ∧ Below w.heap.size w w' := by
  unfold maxLen at hcap
  have H := Lib.hid had
  have hm0 : (Instr.makeMap 181 none).run Tryz.prog w = .ok (.map (some w.heap.size)) (w.alloc (.map #[] 0)) := rfl
  have Hb0 : Hid (Below w.heap.size w (w.alloc (.map #[] 0))) := (Below.refl _ _).alloc (Nat.le_refl _) _
  have Hs0 : Hid (SMap (w.alloc (.map #[] 0)) w.heap.size []) := ⟨#[], 0, heap_alloc_new w _, rfl⟩
  clear had
  go_enter Tryz.func25, Tryz.ntmps25
  go_wp2
  go_loopw [9] (fun i wr => SRel w ss n i wr) (fun i _ => n - (intOf i).toNat)
  case atStart => exact ⟨0, Nat.zero_le _, rfl, Hb0.out, Hs0.out, fun j hj => by omega⟩
  case round =>
    obtain ⟨k, hk, rfl, hb, hs, hall⟩ := hrel
    by_cases hlt : k < n
    · have hc : wr.cell? ⟨b, o + k, none⟩ = some (.string (ss k)) := cell_below (H.out k hlt) hb
      have hv := range_val ss (ss k) k
      by_cases hd : ∃ j, j < k ∧ (ss k == ss j) = true
      · have hbad : srvP ss k = false := by
          obtain ⟨j, h1, h2⟩ := hd
          unfold srvP
          rw [sOk_false (j := j) (Nat.zero_le _) (by omega) (by simp [h2]), Bool.and_false]
        have hres : (sOk (srvP ss) n 0 && decide (n ≤ 8)) = false := by rw [sOk_false (j := k) (Nat.zero_le _) (by omega) hbad, Bool.false_and]
        rw [if_pos hd] at hv
        have hl1 := lookS hs (ss k)
        rw [hv] at hl1
        obtain ⟨W, u1, u2, u3⟩ := updS hs (ss k) 2
        have hl2 := lookS u2 (ss k)
        rw [sUpd_val] at hl2
        have hB := Lib.hid (below_kpt hb (Nat.le_refl _) u3)
        have HR := Lib.hid hres
        clear hs u2 hall hbad hres hv hd u3 hb
        by_cases hL : 1 ≤ ((ss k).size : Int) ∧ ((ss k).size : Int) ≤ 64
        · have HL := Lib.hid (decide_eq_true hL)
          clear hL
          go_wp2_with (go_at_call 28; refine (within_any _ _ _ _).mono ?_; rintro e w5 ⟨rfl, rfl⟩; rw [HL.out])
          go_ret
          exact ⟨by rw [HR.out]; rfl, hB.out⟩
        · have HL := Lib.hid (decide_eq_false hL)
          clear hL
          go_wp2_with (go_at_call 28; refine (within_any _ _ _ _).mono ?_; rintro e w5 ⟨rfl, rfl⟩; rw [HL.out])
          go_ret
          exact ⟨by rw [HR.out]; rfl, hB.out⟩
      · rw [if_neg hd] at hv
        have hl1 := lookS hs (ss k)
        rw [hv] at hl1
        obtain ⟨W, u1, u2, u3⟩ := updS hs (ss k) 1
        have hl2 := lookS u2 (ss k)
        rw [sUpd_val] at hl2
        have hB := Lib.hid (below_kpt hb (Nat.le_refl _) u3)
        have hnew : sUpd (ss k) 1 ((List.range k).map fun j => (ss j, (1 : Int))) = (List.range (k + 1)).map fun j => (ss j, (1 : Int)) := by
          rw [sUpd_new, List.range_succ, List.map_append]; rfl
          intro p hp
          obtain ⟨j, hj, rfl⟩ := List.mem_map.1 hp
          exact fun h => hd ⟨j, List.mem_range.1 hj, h⟩
        rw [hnew] at u2
        have HS := Lib.hid u2
        by_cases hL : 1 ≤ ((ss k).size : Int) ∧ ((ss k).size : Int) ≤ 64
        · have hgood : srvP ss k = true := by
            unfold srvP
            rw [decide_eq_true (by omega), Bool.true_and, sOk_iff]
            intro j _ hj
            cases hq : ss k == ss j
            · rfl
            · exact absurd ⟨j, by omega, hq⟩ hd
          have hall' : Hid (∀ j, j < k + 1 → srvP ss j = true) := fun j hj => by
            by_cases e : j = k
            · rw [e]; exact hgood
            · exact hall j (by omega)
          have HL := Lib.hid (decide_eq_true hL)
          clear hL hs u2 hall hv hd u3 hb hgood hnew
          go_wp2_with (go_at_call 28; refine (within_any _ _ _ _).mono ?_; rintro e w5 ⟨rfl, rfl⟩; rw [HL.out])
          exact ⟨⟨k + 1, hlt, by simp, hB.out, HS.out, hall'.out⟩, by simp [intOf]; omega⟩
        · have hbad : srvP ss k = false := by
            unfold srvP
            rw [decide_eq_false (by omega), Bool.false_and]
          have hres : (sOk (srvP ss) n 0 && decide (n ≤ 8)) = false := by rw [sOk_false (j := k) (Nat.zero_le _) (by omega) hbad, Bool.false_and]
          have HR := Lib.hid hres
          have HL := Lib.hid (decide_eq_false hL)
          clear hL hs u2 hall hv hd u3 hb hbad hnew hres
          go_wp2_with (go_at_call 28; refine (within_any _ _ _ _).mono ?_; rintro e w5 ⟨rfl, rfl⟩; rw [HL.out])
          go_ret
          exact ⟨by rw [HR.out]; rfl, hB.out⟩
    · obtain rfl : k = n := by omega
      have hres : sOk (srvP ss) k 0 = true := sOk_iff.2 fun j _ hj => hall j (by omega)
      have HR := Lib.hid hres
      have HB := Lib.hid hb
      clear hs hall hres hb
      go_wp2
      go_ret
      refine ⟨?_, HB.out⟩
      rw [HR.out, Bool.true_and]
      show Ending.returned (.bool (decide ((k : Int) ≤ 8))) = Ending.returned (.bool (decide (k ≤ 8)))
      have e : decide ((k : Int) ≤ 8) = decide (k ≤ 8) := by rw [Bool.eq_iff_iff, decide_eq_true_eq, decide_eq_true_eq]; omega
      rw [e]
theorem srv_none (ss : Nat → ByteArray) (ad : Option Addr) (cap : Nat) (w : World) (hcap : cap ≤ maxLen) :
    Calls Tryz.prog 25 #[.slice ad 0 cap] w fun e w' => e = .returned (.bool (sOk (srvP ss) 0 0 && decide (0 ≤ 8))) ∧ Below w.heap.size w w' := by
  unfold maxLen at hcap
  have hm0 : (Instr.makeMap 181 none).run Tryz.prog w = .ok (.map (some w.heap.size)) (w.alloc (.map #[] 0)) := rfl
  have Hb0 : Hid (Below w.heap.size w (w.alloc (.map #[] 0))) := (Below.refl _ _).alloc (Nat.le_refl _) _
  go_enter Tryz.func25, Tryz.ntmps25
  go_wp2
  refine wp_loop_rounds 1 ?_; rw [rounds_succ]
  go_wp2
  go_ret
  exact ⟨rfl, Hb0.out⟩
def srvS (d : D) (i : Nat) : ByteArray := ((d.get i).cell 0).toS
def srvB (d : D) : Bool := sOk (srvP (srvS d)) d.len 0 && decide (d.len ≤ 8)
def FSrv : List AV → RT AV
  | [.sl false [.str] d none] => .ok (.sc false (.bool (srvB d)))
  | _ => .bad 669
theorem srv_soundF : SoundF Tryz.prog 25 (pureS Tryz.prog 25 FSrv) := by
  refine pureS_direct fun args K H w0 G E h w vals I hr => ?_
  unfold FSrv at H
  split at H
  · rename_i d
    obtain ⟨v, _, rfl, ⟨⟨_, ad, cap, rfl, h1, h2, _, h3⟩, _⟩, hn⟩ := hr
    have hn : _ = ([] : List Value) := hn
    subst hn
    by_cases hz : d.len = 0
    · rw [hz]
      refine (srv_none (srvS d) ad cap w h2).mono ?_
      rintro e w' ⟨rfl, hb⟩
      refine ⟨_, _, _, H, rfl, I.fresh hb, ?_⟩
      unfold srvB
      rw [hz]
      exact ⟨rfl, rfl⟩
    · obtain ⟨b, o, rfl, hel⟩ := h3 hz
      refine (srv_some (srvS d) d.len cap b o w h1 h2 fun k hk => ?_).mono ?_
      · obtain ⟨⟨v, g1, g2⟩, _⟩ := hel k hk
        have g2 : v = .string _ := g2
        subst g2
        have := I.z _ _ _ g1
        rwa [show k * [Sh.str].length = k from Nat.mul_one k] at this
      · rintro e w' ⟨rfl, hb⟩
        exact ⟨_, _, _, H, rfl, I.fresh hb, rfl, rfl⟩
  · exact H.elim
end Go.Proofs.YtomblhnchdokmaaGreatDoor
