/- octet.Equal and cut. -/
import Derived.Test.YtmbbcgfcallllaaDoorProg
import Derived.Test.YtmbbcgfcallllaaDoorBase
import Derived.WalkLawsBesides
import Derived.WalkSpells
import Derived.Deep.QuietTactic
import Derived.BigQuiet
import Derived.IntWalk
namespace Go.Proofs.YtmbbcgfcallllaaDoor
open Go.RowKit

theorem cut_any (w : World) (v : Value) (l : List UInt8) (h : IsBytes w v l) :
    Calls Tryd.prog 9 #[v] w fun e w' => w = w' ∧ ∃ v', e = .returned v' ∧ IsBytes w v' (l.take 2000) := by
  rcases h with ⟨rfl, rfl⟩ | ⟨x, cap, rfl, h1, h2, h3⟩
  · go_enter Tryd.func9, Tryd.ntmps9
    go_wp2
    go_ret
    exact ⟨rfl, _, rfl, .nil w⟩
  · by_cases hl : l.length ≤ 2000
    · have ht : l.take 2000 = l := List.take_of_length_le hl
      rw [ht]
      clear ht
      go_enter Tryd.func9, Tryd.ntmps9
      go_wp2
      go_ret
      exact ⟨rfl, _, rfl, .inr ⟨x, cap, rfl, h1, h2, h3⟩⟩
    · have ht : (l.take 2000).length = 2000 := by rw [List.length_take]; omega
      have hg : ∀ i, i < 2000 → w.cell? (x.add i) = some (.int .u8 (((l.take 2000)[i]?.getD 0).toNat : Int)) := by
        intro i hi
        rw [List.getElem?_take, if_pos hi]
        exact h3 i (by omega)
      generalize l.take 2000 = l' at *
      have hcap : 2000 ≤ cap := by omega
      go_enter Tryd.func9, Tryd.ntmps9
      go_wp2
      go_ret
      exact ⟨rfl, _, rfl, .inr ⟨x, cap, by rw [ht]; rfl, by omega, h2, fun i hi => hg i (by omega)⟩⟩

def xorAll (a b : List UInt8) : Nat → UInt8
  | 0 => 0
  | k + 1 => xorAll a b k ||| (a[k]?.getD 0 ^^^ b[k]?.getD 0)
theorem u8_or_zero (a b : UInt8) : a ||| b = 0 ↔ a = 0 ∧ b = 0 := by
  constructor
  · intro h
    constructor <;> (apply UInt8.toNat_inj.1; have := congrArg UInt8.toNat h; simp at this ⊢; simp [this])
  · rintro ⟨rfl, rfl⟩; rfl
theorem xorAll_zero (a b : List UInt8) : ∀ k, xorAll a b k = 0 ↔ ∀ i, i < k → a[i]?.getD 0 = b[i]?.getD 0
  | 0 => by simp [xorAll]
  | k + 1 => by
    simp only [xorAll]
    rw [u8_or_zero, xorAll_zero a b k, UInt8.xor_eq_zero_iff]
    constructor
    · rintro ⟨h1, h2⟩ i hi
      rcases Nat.lt_succ_iff_lt_or_eq.1 hi with h | rfl
      · exact h1 i h
      · exact h2
    · intro h
      exact ⟨fun i hi => h i (by omega), h k (by omega)⟩
theorem xorAll_eq (a b : List UInt8) (h : a.length = b.length) : (((xorAll a b a.length).toNat : Int) == 0) = (a == b) := by
  have h1 : ((xorAll a b a.length).toNat : Int) = 0 ↔ xorAll a b a.length = 0 := by
    rw [← UInt8.toNat_inj]; simp
  rw [Bool.eq_iff_iff]
  simp only [beq_iff_eq]
  rw [h1, xorAll_zero]
  constructor
  · intro hh
    apply List.ext_getElem h
    intro i h1 h2
    have := hh i h1
    simpa [h1, h2] using this
  · rintro rfl i _; rfl

def EqRel (w : World) (n : Nat) (l l' : List UInt8) (p i : Value) (wr : World) : Prop :=
  ∃ k : Nat, k ≤ n ∧ i = .int .i64 k ∧ p = .int .u8 (xorAll l l' k).toNat ∧ ∃ m, wr = w.drewN m

theorem EqRel.step {w : World} {n : Nat} {l l' : List UInt8} {k m : Nat} (h : k < n) :
    EqRel w n l l' (.int .u8 (bits .or .u8 ((xorAll l l' k).toNat : Int) (bits .xor .u8 ((l[k]?.getD 0).toNat : Int) ((l'[k]?.getD 0).toNat : Int)))) (.int .i64 ((k : Int) + 1)) (w.drewN m) :=
  ⟨k + 1, h, by simp, by rw [u8_xor_u, u8_or_u]; rfl, m, rfl⟩

theorem equal_same (w : World) (v v' : Value) (l l' : List UInt8) (hv : IsBytes w v l) (hv' : IsBytes w v' l') (hl : l.length = l'.length) (hpos : 0 < l.length) :
    Calls Tryd.prog 10 #[v, v'] w fun e w' => e = .returned (.bool (l == l')) ∧ ∃ n, w' = w.drewN n := by
  have hfin := xorAll_eq l l' hl
  rcases hv with ⟨rfl, rfl⟩ | ⟨x, cap, rfl, h1, h2, h3⟩
  · simp at hpos
  rcases hv' with ⟨rfl, rfl⟩ | ⟨x', cap', rfl, h1', h2', h3'⟩
  · simp at hl; simp [hl] at hpos
  rw [← hl]
  unfold maxLen at h2
  rw [← hl] at h3'
  generalize hn : l.length = n at *
  clear hn hl h1'
  have Hfin := Lib.hid hfin
  clear hfin
  go_enter Tryd.func10, Tryd.ntmps10
  go_wp2
  go_loopw [5, 14] (fun p i wr => EqRel w n l l' p i wr) (fun _ i _ => n - (intOf i).toNat)
  case atStart => exact ⟨0, Nat.zero_le _, rfl, rfl, 0, rfl⟩
  case round =>
    obtain ⟨k, hk, rfl, rfl, m, rfl⟩ := hrel
    by_cases hlt : k < n
    · have c1 := h3 k hlt
      have c2 := h3' k hlt
      go_wp2
      go_quiet (fail)
      go_wp2
      refine ⟨EqRel.step hlt, ?_⟩
      simp [intOf]; omega
    · go_wp2
      go_ret
      obtain rfl : k = n := by omega
      exact ⟨ret_eq (bool_eq Hfin.out), _, rfl⟩

theorem equal_any (w : World) (v v' : Value) (l l' : List UInt8) (hv : IsBytes w v l) (hv' : IsBytes w v' l') :
    Calls Tryd.prog 10 #[v, v'] w fun e w' => e = .returned (.bool (l == l')) ∧ ∃ n, w' = w.drewN n := by
  by_cases hl : l.length = l'.length
  · by_cases hpos : 0 < l.length
    · exact equal_same w v v' l l' hv hv' hl hpos
    · obtain rfl : l = [] := List.eq_nil_of_length_eq_zero (by omega)
      obtain rfl : l' = [] := List.eq_nil_of_length_eq_zero (by simpa using hl.symm)
      obtain ⟨a, cap, rfl, _, _⟩ := hv.shape
      obtain ⟨a', cap', rfl, _, _⟩ := hv'.shape
      clear hv hv' hl hpos
      go_enter Tryd.func10, Tryd.ntmps10
      go_wp2_with fail
      refine wp_loop_rounds 1 ?_; rw [rounds_succ]
      go_wp2
      go_ret
      exact ⟨rfl, 0, rfl⟩
  · have hd : (l == l') = false := by
      rw [beq_eq_false_iff_ne]; rintro rfl; exact hl rfl
    obtain ⟨a, cap, rfl, h1, h2⟩ := hv.shape
    obtain ⟨a', cap', rfl, h1', h2'⟩ := hv'.shape
    rw [hd]
    clear hd hv hv'
    have hne : ((l.length : Int) == (l'.length : Int)) = false := by rw [beq_eq_false_iff_ne]; omega
    generalize l.length = n at *
    generalize l'.length = n' at *
    go_enter Tryd.func10, Tryd.ntmps10
    go_wp2
    go_ret
    exact ⟨rfl, 0, rfl⟩
set_option maxRecDepth 10000
def putCell (n k j : Nat) : Value := if 8 - k ≤ j then .int .u8 ((n : Int) / 2 ^ (8 * (7 - j)) % 256) else .int .u8 0
def putArr (n k : Nat) : Array Value := #[putCell n k 0, putCell n k 1, putCell n k 2, putCell n k 3, putCell n k 4, putCell n k 5, putCell n k 6, putCell n k 7]
theorem putArr_get (n k j : Nat) (h : j < 8) : (putArr n k)[j]? = some (putCell n k j) := by
  rcases (by omega : j = 0 ∨ j = 1 ∨ j = 2 ∨ j = 3 ∨ j = 4 ∨ j = 5 ∨ j = 6 ∨ j = 7) with rfl | rfl | rfl | rfl | rfl | rfl | rfl | rfl <;> rfl
theorem putArr_set (n k : Nat) (h : k < 8) : (putArr n k).setIfInBounds (7 - k) (.int .u8 ((n : Int) / 2 ^ (8 * k) % 256)) = putArr n (k + 1) := by
  rcases (by omega : k = 0 ∨ k = 1 ∨ k = 2 ∨ k = 3 ∨ k = 4 ∨ k = 5 ∨ k = 6 ∨ k = 7) with rfl | rfl | rfl | rfl | rfl | rfl | rfl | rfl <;> rfl
theorem el_u8 : ElemOf Tryd.prog 22 5 1 1 (.int .u8 0) := ⟨by kernel_rfl, ⟨_, rfl, rfl, rfl, rfl⟩, rfl, by decide, by decide⟩

def beByte (n i : Nat) : UInt8 := UInt8.ofNat (n / 2 ^ (8 * i))
/-- the lowest 'size' bytes of n, the highest first -/
def be (n size : Nat) : List UInt8 := (List.range size).map fun i => beByte n (size - 1 - i)

theorem beByte_int (n i : Nat) : ((n : Int) / 2 ^ (8 * i) % 256) = ((beByte n i).toNat : Int) := by
  simp [beByte]

theorem putCell_be (n j : Nat) : putCell n 8 j = bv (beByte n (7 - j)) := by
  unfold putCell
  rw [if_pos (by omega), beByte_int]

theorem put_src (n s : Nat) (hs1 : 1 ≤ s) (hs8 : s ≤ 8) (w : World) (o : Obj) : SrcOf ((w.alloc (.cells (putArr n 8) 52)).alloc o) 1 (.slice (some ⟨w.heap.size, 8 - s, none⟩) (8 - (8 - s)) (8 - (8 - s))) s ((be n s).map bv) := by
  rw [show 8 - (8 - s) = s by omega]
  refine .inr ⟨_, _, rfl, by simp [be], ?_, ?_⟩
  · intro j u hu
    rw [List.getElem?_map] at hu
    by_cases hj : j < s
    · simp [be, hj] at hu
      subst hu
      have : (⟨w.heap.size, 8 - s, none⟩ : Addr).add j = ⟨w.heap.size, 8 - s + j, none⟩ := by
        unfold Addr.add; split <;> simp_all
      rw [this]
      have hc := putArr_get n 8 (8 - s + j) (by omega)
      rw [putCell_be, show 7 - (8 - s + j) = s - 1 - j by omega] at hc
      refine (World.cell?_alloc_lt _ _ _ (by show w.heap.size < _; rw [World.size_alloc]; omega)).trans ?_
      rw [cell_of_row (w.alloc (.cells (putArr n 8) 52)) w.heap.size _ (putArr n 8) 52 (0, 0) (heap_alloc_new _ _)]
      exact hc
    · simp [be, hj] at hu
  · intro u hu
    obtain ⟨_, _, rfl⟩ := List.mem_map.1 hu
    rfl

theorem put_any (n : Nat) (_hn : n < 18446744073709551616) (s : Nat) (h1 : 1 ≤ s) (h8 : s ≤ 8) (w : World) :
    Calls Tryd.prog 12 #[.int .u64 n, .int .i64 s] w fun e w' => ∃ v, e = .returned v ∧ Below w.heap.size w w' ∧ w'.ownsRow w.heap.size 5 1 v s ((be n s).map bv) := by
  have i1 : (1 : Int) ≤ s := by omega
  have i2 : (s : Int) ≤ 8 := by omega
  go_enter Tryd.func12, Tryd.ntmps12
  go_wp2
  go_loopw [6, 10] (fun _ i wr => ∃ k : Nat, k ≤ 8 ∧ i = .int .i64 k ∧ wr = w.alloc (.cells (putArr n k) 52)) (fun _ i _ => 8 - (intOf i).toNat)
  case atStart => exact ⟨0, by omega, rfl, rfl⟩
  case round =>
    obtain ⟨k, hk, rfl, rfl⟩ := hrel
    by_cases hlt : k < 8
    · have g := putArr_get n k (7 - k) (by omega)
      have s := Lib.hid (putArr_set n k hlt)
      go_wp2
      rw [s.out]
      go_roundw
      case rel => exact ⟨k + 1, by omega, by go_num, rfl⟩
      case measure => simp [intOf]; omega
    · obtain rfl : k = 8 := by omega
      have hsrc := Lib.hid (put_src n s h1 h8 w (.cells #[] 5))
      generalize hp : putArr n 8 = arr at hsrc
      have Hp := Lib.hid hp
      clear hp
      have hown : ((w.alloc (.cells arr 52)).alloc (.cells #[] 5)).ownsRow w.heap.size 5 1 (.slice (some ⟨w.heap.size + 1, 0, none⟩) 0 0) 0 [] := by
        have := World.ownsRow_made (w.alloc (.cells arr 52)) (base := w.heap.size) (e := 5) (size := 1) #[] 0 (by simp) (by simp) (by simp)
        rw [World.size_alloc] at this
        exact this
      have hown := Lib.hid hown
      have hA : Tryd.prog.arrayLen 52 = 8 := by kernel_rfl
      have h8' : (8 : Int) - s ≤ 8 := by omega
      have h0' : (0 : Int) ≤ 8 - s := by omega
      have hx : 8 - (8 - (s : Int)).toNat = s := by omega
      have hx2 : (8 - (s : Int)).toNat = 8 - s := by omega
      go_wp2_with (at_builtin; go_loud (refine wpList_append_from rfl _ _ _ rfl (w.heap.size) el_u8 rfl hown.out rfl hsrc.out ?c4 ?c5 ?_))
      case c4 => simp; omega
      case c5 => simp; omega
      intro v' w' ho hg hb
      go_wp2
      go_ret
      exact ⟨_, rfl, (((Below.refl _ _).alloc (Nat.le_refl _) _).alloc (by simp) _).trans hb, ho⟩
end Go.Proofs.YtmbbcgfcallllaaDoor
