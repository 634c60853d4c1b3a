/- slices.Clone of bytes; tags.may, conciergeref05.Is; tags.Encode, conciergeref05.Encode. -/
import Derived.Test.YtokiedeiamlnlaaGreatProg
import Derived.Test.YtokiedeiamlnlaaGreatBase
import Derived.Test.YtokiedeiamlnlaaGreatPut
import Derived.Test.YtokiedeiamlnlaaGreatCat
namespace Go.Proofs.YtokiedeiamlnlaaGreat
set_option linter.unusedSimpArgs false
set_option linter.unusedVariables false
open Go.RowKit
set_option maxRecDepth 10000

theorem run_equalIn_nil {P : Program} (w : World) (d : Nat) (t e : TypeId) (a : Option Addr) (n c n' c' : Nat) (h : P.underlying t = some (.slice e)) :
    (Op.equalIn (d + 1) t (.slice a n c) (.slice none n' c')).run P w = .ok a.isNone w := by
  cases a <;> simp [Op.equalIn, run_underlying h]
theorem run_eql_nil {P : Program} (w : World) (t e : TypeId) (a : Option Addr) (n c : Nat) (h : P.underlying t = some (.slice e)) :
    (binOp .eql t (.slice a n c) (.slice none 0 0)).run P w = .ok (.bool a.isNone) w := by
  simp only [binOp]
  simp [Op.equal, Op.maxDepth, run_equalIn_nil w 9999 t e a n c 0 0 h]

theorem clone_any (v : Value) (l : List UInt8) (w : World) (hv : IsBytes w v l) (hl : l.length ≤ 140737488355328) :
    Calls Tryz.prog 41 #[v] w fun e w' => ∃ v', e = .returned v' ∧ Below w.heap.size w w' ∧ IsBytes w' v' l := by
  rcases hv with ⟨rfl, rfl⟩ | hv
  · have hq : ∀ W, (binOp .eql 24 (.slice none 0 0) (.slice none 0 0)).run Tryz.prog W = .ok (.bool true) W := fun W => run_eql_nil W _ 5 none 0 0 (by kernel_rfl)
    go_enter Tryz.func41, Tryz.ntmps41
    go_wp2
    go_ret
    exact ⟨_, rfl, Below.refl _ _, .nil _⟩
  · have Hv : Hid (IsBytes w v l) := .inr hv
    obtain ⟨x, cap, rfl, -⟩ := hv
    have Hsrc := Lib.hid (Hv.out.src.alloc (.cells #[] 5))
    have Hown := Lib.hid (own_empty w w.heap.size (Nat.le_refl _) 5 1)
    have hq : ∀ W, (binOp .eql 24 (.slice (some x) l.length cap) (.slice none 0 0)).run Tryz.prog W = .ok (.bool false) W := fun W => run_eql_nil W _ 5 (some x) _ cap (by kernel_rfl)
    go_enter Tryz.func41, Tryz.ntmps41
    go_wp2_with (at_builtin; go_must (refine wpList_append_from rfl _ _ _ rfl w.heap.size el_u8 rfl Hown.out rfl Hsrc.out (by omega) (by simp) ?_); intro v' w' ho hg hb)
    go_ret
    exact ⟨_, rfl, ((Below.refl _ _).alloc (Nat.le_refl _) _).trans hb, own_bytes ho⟩

/-- a tag's type and value -/
abbrev TagL := Int × List UInt8
def tagOk (t : TagL) : Bool := decide (1 ≤ t.1) && (decide (t.1 ≤ 65535) && decide (t.2.length ≤ 65535))

theorem two_cells {w W : World} {t : TypeId} {a b : Value} (h : Below (w.alloc (.cells #[a, b] t)).heap.size (w.alloc (.cells #[a, b] t)) W) :
    W.cell? ⟨w.heap.size, 0, none⟩ = some a ∧ W.cell? ⟨w.heap.size, 1, none⟩ = some b ∧ Below w.heap.size w W := by
  have h1 : W.heap[w.heap.size]? = some (.cells #[a, b] t (0, 0)) := (h.block _ (by simp)).trans (heap_alloc_new w _)
  refine ⟨by rw [cell_of_row W _ _ _ t _ h1]; rfl, by rw [cell_of_row W _ _ _ t _ h1]; rfl, ((Below.refl w.heap.size w).alloc (Nat.le_refl _) _).trans (h.mono (by simp))⟩

theorem may_any (n : Int) (v : Value) (l : List UInt8) (w : World) (hv : IsBytes w v l) :
    Calls Tryz.prog 109 #[.agg #[.int .i64 n, v]] w fun e w' => e = .returned (.bool (tagOk (n, l))) ∧ Below w.heap.size w w' := by
  obtain ⟨a, c, rfl, h1, h2⟩ := hv.shape
  clear hv
  have hT : Hid (tagOk (n, l) = (decide (1 ≤ n) && (decide (n ≤ 65535) && decide (l.length ≤ 65535)))) := rfl
  generalize tagOk (n, l) = b at *
  go_enter Tryz.func109, Tryz.ntmps109
  go_wp2
  all_goals go_ret
  all_goals refine ⟨ret_eq (bool_eq ?_), (Below.refl _ _).alloc (Nat.le_refl _) _⟩
  all_goals rw [hT.out]
  all_goals (rw [Bool.eq_iff_iff]; simp only [Bool.and_eq_true, decide_eq_true_eq, Bool.false_eq_true, false_iff]; omega)

theorem is_any (n : Int) (v : Value) (l : List UInt8) (w : World) (hv : IsBytes w v l) :
    Calls Tryz.prog 131 #[.agg #[.int .i64 n, v]] w fun e w' => e = .returned (.bool (tagOk (n, l))) ∧ Below w.heap.size w w' := by
  obtain ⟨a, c, rfl, h1, h2⟩ := hv.shape
  clear hv
  have hT : Hid (tagOk (n, l) = (decide (1 ≤ n) && (decide (n ≤ 65535) && decide (l.length ≤ 65535)))) := rfl
  generalize tagOk (n, l) = b at *
  go_enter Tryz.func131, Tryz.ntmps131
  go_wp2
  all_goals go_ret
  all_goals refine ⟨ret_eq (bool_eq ?_), (Below.refl _ _).alloc (Nat.le_refl _) _⟩
  all_goals rw [hT.out]
  all_goals (rw [Bool.eq_iff_iff]; simp only [Bool.and_eq_true, decide_eq_true_eq, Bool.false_eq_true, false_iff]; omega)

/-- v is a slice of tags that read as l -/
def IsTags (w : World) (v : Value) (l : List TagL) : Prop :=
  ∃ x c, v = .slice (some x) l.length c ∧ l.length ≤ c ∧ ∀ i t, l[i]? = some t → w.cell? (x.add (i * 2)) = some (.int .i64 t.1) ∧ ∃ u, w.cell? (x.add (i * 2 + 1)) = some u ∧ IsBytes w u t.2

def tagBytes (t : TagL) : List UInt8 := be t.1.toNat 2 ++ be t.2.length 2 ++ t.2
def tagsBytes (l : List TagL) : List UInt8 := (l.map tagBytes).flatten
def tagsCode (l : List TagL) : Int := if 64 < l.length then 3 else if l.all tagOk then (if 1494 < (tagsBytes l).length then 2 else 0) else 50
def tagsOut (l : List TagL) : List UInt8 := if tagsCode l = 0 then tagsBytes l else []

theorem tagsBytes_take {l : List TagL} {k : Nat} {t : TagL} (h : l[k]? = some t) : tagsBytes (l.take (k + 1)) = tagsBytes (l.take k) ++ tagBytes t := by
  unfold tagsBytes
  rw [List.take_add_one, h]; simp
theorem be_len (n s : Nat) : (be n s).length = s := by simp [be]
theorem tagBytes_len (t : TagL) : (tagBytes t).length = 4 + t.2.length := by unfold tagBytes; simp [be_len]; omega
theorem take_ok {l : List TagL} {k : Nat} {t : TagL} (h : l[k]? = some t) (hk : (l.take k).all tagOk = true) (ht : tagOk t = true) : (l.take (k + 1)).all tagOk = true := by
  rw [List.take_add_one, h]; simp at hk ⊢; exact ⟨hk, by simpa using ht⟩
theorem not_ok {l : List TagL} {k : Nat} {t : TagL} (h : l[k]? = some t) (ht : tagOk t = false) : l.all tagOk = false := by
  rw [List.all_eq_false]
  exact ⟨t, List.mem_of_getElem? h, by simp [ht]⟩
theorem tagsBytes_le {l : List TagL} (h : l.all tagOk = true) : (tagsBytes l).length ≤ l.length * 65539 := by
  induction l with
  | nil => simp [tagsBytes]
  | cons t l ih =>
    simp only [List.all_cons, Bool.and_eq_true] at h
    have h1 := ih h.2
    have h2 : t.2.length ≤ 65535 := by
      have := h.1; simp only [tagOk, Bool.and_eq_true, decide_eq_true_eq] at this; omega
    have h3 : tagsBytes (t :: l) = tagBytes t ++ tagsBytes l := by simp [tagsBytes]
    rw [h3, List.length_append, tagBytes_len, List.length_cons]
    omega

theorem add_one (y : Addr) : y.add 1 = ⟨y.block, y.off + 1, none⟩ := by simp [Addr.add]

theorem tagsBytes_take_le (l : List TagL) (k : Nat) : (tagsBytes (l.take k)).length ≤ (tagsBytes l).length := by
  have h : tagsBytes l = tagsBytes (l.take k) ++ tagsBytes (l.drop k) := by
    unfold tagsBytes; rw [← List.flatten_append, ← List.map_append, List.take_append_drop]
  rw [h, List.length_append]; omega
theorem tag_bounds {l : List TagL} (h : l.all tagOk = true) {k : Nat} {t : TagL} (ht : l[k]? = some t) : ∃ m : Nat, t.1 = m ∧ m ≤ 65535 ∧ t.2.length ≤ 65535 := by
  have := List.all_eq_true.1 h t (List.mem_of_getElem? ht)
  simp only [tagOk, Bool.and_eq_true, decide_eq_true_eq] at this
  exact ⟨t.1.toNat, by omega, by omega, by omega⟩

def TagRel1 (w : World) (l : List TagL) (n i : Value) (wr : World) : Prop :=
  ∃ k : Nat, k ≤ l.length ∧ i = .int .i64 k ∧ n = .int .i64 (tagsBytes (l.take k)).length ∧ (l.take k).all tagOk = true ∧ Below w.heap.size w wr

def TagRel2 (w : World) (l : List TagL) (v i : Value) (wr : World) : Prop :=
  ∃ k : Nat, k ≤ l.length ∧ i = .int .i64 k ∧ Below w.heap.size w wr ∧ wr.ownsRow w.heap.size 5 1 v (tagsBytes (l.take k)).length ((tagsBytes (l.take k)).map bv)

theorem put2 (n : Nat) (hn : n ≤ 65535) (w : World) :
    Calls Tryz.prog 85 #[.int .u64 n, .int .i64 2] w fun e w' => ∃ v, e = .returned v ∧ Below w.heap.size w w' ∧ SrcOf w' 1 v 2 ((be n 2).map bv) := by
  refine (put_any n (by omega) 2 (by omega) (by omega) w).mono ?_
  rintro e w' ⟨v, rfl, hb, ho⟩
  have := (own_bytes ho).src
  rw [be_len] at this
  exact ⟨v, rfl, hb, this⟩
theorem rput2 (n : Nat) (hn : n ≤ 65535) (w : World) :
    Calls Tryz.prog 108 #[.int .u64 n, .int .i64 2] w fun e w' => ∃ v, e = .returned v ∧ Below w.heap.size w w' ∧ SrcOf w' 1 v 2 ((be n 2).map bv) := by
  refine (rput_any n (by omega) 2 (by omega) (by omega) w).mono ?_
  rintro e w' ⟨v, rfl, hb, ho⟩
  have := (own_bytes ho).src
  rw [be_len] at this
  exact ⟨v, rfl, hb, this⟩
theorem keep_other {w w' : World} {base : Nat} {e : TypeId} {size : Nat} {v : Value} {n : Nat} {xs : List Value} (ho : w.ownsRow base e size v n xs) (hg : w.grownBy w' v.ownBlock)
    {B : Nat} {cs : Array Value} {t : TypeId} {fr : Nat × Nat} (h : w.heap[B]? = some (.cells cs t fr)) (ht : t ≠ e) : w'.heap[B]? = some (.cells cs t fr) := by
  rw [hg.block B (Array.getElem?_eq_some_iff.1 h).1 ?_, h]
  intro hB
  rcases ho.2 with ⟨rfl, _⟩ | ⟨g, cap, cur, rfl, _, hh, _⟩
  · cases hB
  · simp only [Value.ownBlock, Option.some.injEq] at hB
    subst hB
    rw [h] at hh
    injection hh with hh
    injection hh with _ h2
    exact ht h2
theorem two_at {W : World} {B : Nat} {t : TypeId} {a b : Value} (h : W.heap[B]? = some (.cells #[a, b] t (0, 0))) : W.cell? ⟨B, 0, none⟩ = some a ∧ W.cell? ⟨B, 1, none⟩ = some b := by
  exact ⟨by rw [cell_of_row W _ _ _ t _ h]; rfl, by rw [cell_of_row W _ _ _ t _ h]; rfl⟩

set_option maxHeartbeats 4000000 in
theorem tags_enc (v : Value) (l : List TagL) (w : World) (hv : IsTags w v l) :
    Calls Tryz.prog 62 #[v] w fun e w' => ∃ v', e = .returned (.tuple #[v', .int .i64 (tagsCode l)]) ∧ Below w.heap.size w w' ∧ IsBytes w' v' (tagsOut l) := by
  obtain ⟨x, c, rfl, hc, hv⟩ := hv
  have Hv := Lib.hid hv
  clear hv
  by_cases h64 : 64 < l.length
  · have h64' : (64 : Int) < l.length := by omega
    have h1 : tagsCode l = 3 := by unfold tagsCode; rw [if_pos h64]
    have h2 : tagsOut l = [] := by unfold tagsOut; rw [h1]; rfl
    rw [h1, h2]
    clear h1 h2
    go_enter Tryz.func62, Tryz.ntmps62
    go_wp2
    refine bodyPost_ret (v := .tuple #[.slice none 0 0, .int .i64 3]) (by simp [results, Tryz.results62, go_sem]) rfl ⟨_, rfl, Below.refl _ _, .nil _⟩
  · have h64' : (l.length : Int) ≤ 64 := by omega
    go_enter Tryz.func62, Tryz.ntmps62
    go_wp2
    go_loopw [4, 15] (fun n i wr => TagRel1 w l n i wr) (fun _ i _ => l.length - (intOf i).toNat)
    case atStart => exact ⟨0, Nat.zero_le _, rfl, by simp [tagsBytes], by simp, Below.refl _ _⟩
    case round =>
      obtain ⟨k, hk', rfl, rfl, hok, hb⟩ := hrel
      by_cases hlt : k < l.length
      · obtain ⟨hc1, u, hc2, hu⟩ := Hv.out k _ (List.getElem?_eq_getElem hlt)
        have hlt' : (k : Int) < l.length := by omega
        have Hget := Lib.hid (List.getElem?_eq_getElem hlt)
        have hc1 := cell_below hc1 hb
        have hc2 := cell_below hc2 hb
        rw [← addr_add, add_one] at hc2
        have hu := hu.below hb
        obtain ⟨a, cap, rfl, hl1, hl2⟩ := hu.shape
        have Hu := Lib.hid hu
        have hm := may_any (l[k]'hlt).1 _ (l[k]'hlt).2 (wr.alloc (.cells #[.int .i64 (l[k]'hlt).1, .slice a (l[k]'hlt).2.length cap] 128)) (hu.below ((Below.refl _ _).alloc (Nat.le_refl _) _))
        have Hok := Lib.hid hok
        have Hb := Lib.hid hb
        have hsum : (tagsBytes (l.take k)).length ≤ 64 * 65539 := Nat.le_trans (tagsBytes_le hok) (Nat.mul_le_mul_right _ (by rw [List.length_take]; omega))
        generalize hS : (tagsBytes (l.take k)).length = S at *
        have HS := Lib.hid hS
        clear hS hu hok hb
        generalize ht : (l[k]'hlt) = t at *
        clear ht
        cases hq : tagOk t with
        | true =>
          have hl3 : t.2.length ≤ 65535 := by
            simp only [tagOk, Bool.and_eq_true, decide_eq_true_eq] at hq; omega
          have Hq := Lib.hid hq
          rw [hq] at hm
          have Hm := Lib.hid hm
          clear hm hq
          go_wp2_with (go_at_call 109; refine Hm.out.mono ?_; rintro e w1 ⟨rfl, hb1⟩; obtain ⟨c1, c2, hb2⟩ := two_cells hb1)
          go_roundw
          case rel => exact ⟨k + 1, hlt, by go_num, by rw [tagsBytes_take Hget.out, List.length_append, tagBytes_len, HS.out]; go_num, take_ok Hget.out Hok.out Hq.out, Hb.out.trans (hb2.mono Hb.out.size)⟩
          case measure => simp [intOf]; omega
        | false =>
          rw [hq] at hm
          have Hm := Lib.hid hm
          have Hcode : Hid (tagsCode l = 50) := by
            unfold tagsCode; rw [if_neg h64, if_neg (by rw [not_ok Hget.out hq]; decide)]; exact rfl
          clear hm hq
          go_wp2_with (go_at_call 109; refine Hm.out.mono ?_; rintro e w1 ⟨rfl, hb1⟩; obtain ⟨c1, c2, hb2⟩ := two_cells hb1)
          refine bodyPost_ret (v := .tuple #[.slice none 0 0, .int .i64 50]) (by simp [results, Tryz.results62, go_sem]) rfl ⟨_, by rw [Hcode.out], Hb.out.trans (hb2.mono Hb.out.size), ?_⟩
          unfold tagsOut; rw [Hcode.out]; exact .nil _
      · obtain rfl : k = l.length := by omega
        rw [List.take_length] at hok ⊢
        have hsum := Nat.le_trans (tagsBytes_le hok) (Nat.mul_le_mul_right 65539 (show l.length ≤ 64 by omega))
        have Hb := Lib.hid hb
        have Hok := Lib.hid hok
        obtain ⟨S, hS⟩ : ∃ S, S = (tagsBytes l).length := ⟨_, rfl⟩
        rw [← hS] at hsum ⊢
        have HS := Lib.hid hS
        clear hS hok hb
        by_cases hbig : 1494 < S
        · have hbig' : (1494 : Int) < S := by omega
          have Hcode : Hid (tagsCode l = 2) := by
            unfold tagsCode; rw [if_neg h64, if_pos Hok.out, if_pos (by rw [← HS.out]; exact hbig)]; exact rfl
          go_wp2
          refine bodyPost_ret (v := .tuple #[.slice none 0 0, .int .i64 2]) (by simp [results, Tryz.results62, go_sem]) rfl ⟨_, by rw [Hcode.out], Hb.out, ?_⟩
          unfold tagsOut; rw [Hcode.out]; exact .nil _
        · have hbig' : (S : Int) ≤ 1494 := by omega
          have Hcode : Hid (tagsCode l = 0) := by
            unfold tagsCode; rw [if_neg h64, if_pos Hok.out, if_neg (by rw [← HS.out]; exact hbig)]; exact rfl
          go_wp2
          go_loopw [7, 33] (fun v i w2 => TagRel2 w l v i w2) (fun _ i _ => l.length - (intOf i).toNat)
          case atStart => exact ⟨0, Nat.zero_le _, rfl, Hb.out, by simpa [tagsBytes] using World.ownsRow_nil wr w.heap.size 5 1⟩
          case round =>
            obtain ⟨k, hk', rfl, hb, ho⟩ := hrel
            by_cases hlt : k < l.length
            · obtain ⟨hc1, u, hc2, hu⟩ := Hv.out k _ (List.getElem?_eq_getElem hlt)
              have hlt' : (k : Int) < l.length := by omega
              have Hget := Lib.hid (List.getElem?_eq_getElem hlt)
              have hc1 := cell_below hc1 hb
              have hc2 := cell_below hc2 hb
              rw [← addr_add, add_one] at hc2
              obtain ⟨a, cap, rfl, hl1, hl2⟩ := hu.shape
              have Huw := Lib.hid hu
              obtain ⟨m, hm, hm1, hm2⟩ := tag_bounds Hok.out Hget.out
              have hle := tagsBytes_take_le l (k + 1)
              rw [tagsBytes_take Hget.out, List.length_append, tagBytes_len, ← HS.out] at hle
              have Hstep := Lib.hid (tagsBytes_take Hget.out)
              have Hbytes : Hid (tagBytes (l[k]'hlt) = be m 2 ++ be (l[k]'hlt).2.length 2 ++ (l[k]'hlt).2) := by unfold tagBytes; rw [hm]; exact rfl
              rw [hm] at hc1
              have Hb := Lib.hid hb
              have Ho := Lib.hid ho
              have Hsz := Lib.hid hb.size
              clear hb ho hu hm
              generalize ht : (l[k]'hlt) = t at *
              clear ht
              obtain ⟨t1, tv⟩ := t
              simp only at *
              have hm0 : (m : Int) ≤ 65535 := by omega
              have hle' : (tagsBytes (l.take k)).length + (4 + tv.length) ≤ 1494 := by omega
              clear hsum hle
              have HP := Lib.hid (put2 m hm1)
              have HP2 := Lib.hid (put2 tv.length hm2)
              have Hlen := Lib.hid hle'
              clear hle'
              go_wp2_with (first
                | (go_at_call 85; first
                  | (have Ho2x := Ho2.out; clear Ho2x; refine (HP2.out _).mono ?_; rintro e W2 ⟨v2, rfl, hb2, hs2⟩
                     have Ho3 := Lib.hid (own_below Ho2.out hb2)
                     have Hr3 := Lib.hid ((hb2.block wr.heap.size (Array.getElem?_eq_some_iff.1 Hr2.out).1).trans Hr2.out)
                     obtain ⟨c31, c32⟩ := two_at Hr3.out
                     have Hb3 := Lib.hid (Hb2.out.trans (hb2.mono Hb2.out.size))
                     have Hs2 := Lib.hid hs2
                     have Hz3 := Lib.hid Hb3.out.size
                     clear hb2 hs2)
                  | (refine (HP.out _).mono ?_; rintro e W1 ⟨v1, rfl, hb1, hs1⟩
                     have Ho1 := Lib.hid (own_below (Ho.out.alloc _) hb1)
                     have Hr1 := Lib.hid ((hb1.block wr.heap.size (by simp)).trans (heap_alloc_new wr _))
                     obtain ⟨c11, c12⟩ := two_at Hr1.out
                     have Hb1 := Lib.hid (Hb.out.trans ((((Below.refl wr.heap.size wr).alloc (Nat.le_refl _) _).trans (hb1.mono (by simp))).mono Hsz.out))
                     have Hs1 := Lib.hid hs1
                     have Hz1 := Lib.hid Hb1.out.size
                     clear hb1 hs1))
                | (at_builtin; first
                  | (refine wpList_append_from rfl _ _ _ rfl w.heap.size el_u8 rfl Ho4.out rfl Hsv.out (by have := Hlen.out; omega) Hz4.out ?_; intro b5 X5 ho5 hg5 hb5)
                  | (refine wpList_append_from rfl _ _ _ rfl w.heap.size el_u8 rfl Ho3.out rfl Hs2.out (by have := Hlen.out; omega) Hz3.out ?_; intro b4 X4 ho4 hg4 hb4
                     have Hr4 := Lib.hid (keep_other Ho3.out hg4 Hr3.out (by decide))
                     obtain ⟨c41, c42⟩ := two_at Hr4.out
                     have Hb4 := Lib.hid (Hb3.out.trans hb4)
                     have Ho4 := Lib.hid ho4
                     have Hz4 := Lib.hid Hb4.out.size
                     have Hsv := Lib.hid (Huw.out.below Hb4.out).src
                     clear hb4 ho4 hg4)
                  | (refine wpList_append_from rfl _ _ _ rfl w.heap.size el_u8 rfl Ho1.out rfl Hs1.out (by have := Hlen.out; omega) Hz1.out ?_; intro b2 X2 ho2 hg2 hb2'
                     have Hr2 := Lib.hid (keep_other Ho1.out hg2 Hr1.out (by decide))
                     obtain ⟨c21, c22⟩ := two_at Hr2.out
                     have Hb2 := Lib.hid (Hb1.out.trans hb2')
                     have Ho2 := Lib.hid ho2
                     clear hb2' ho2 hg2)))
              refine ⟨⟨k + 1, hlt, by simp, Hb4.out.trans hb5, ?_⟩, by simp [intOf]; omega⟩
              rw [Hstep.out, Hbytes.out, List.length_append, List.map_append, List.length_append, List.length_append, be_len, be_len, List.map_append, List.map_append]
              simp only [Nat.add_assoc, List.append_assoc] at ho5 ⊢
              exact ho5
            · obtain rfl : k = l.length := by omega
              rw [List.take_length] at ho
              have Hb := Lib.hid hb
              have Ho := Lib.hid (own_bytes ho)
              clear hb ho
              go_wp2
              refine bodyPost_ret (v := .tuple #[u7, .int .i64 0]) (by simp [results, Tryz.results62, go_sem]) rfl ⟨_, by rw [Hcode.out], Hb.out, ?_⟩
              unfold tagsOut; rw [Hcode.out, if_pos rfl]; exact Ho.out
end Go.Proofs.YtokiedeiamlnlaaGreat
