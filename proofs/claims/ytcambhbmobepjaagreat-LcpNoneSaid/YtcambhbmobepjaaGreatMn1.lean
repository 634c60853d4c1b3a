/- Mn, 1: texts of this claim, one behind the other: Base Rg2 Gw Zon Arm Ev1 Ev2 Ev3 Ev4. No condition. -/
import Derived.WalkKit
import Derived.Below
import Derived.Lib.Hide
import Derived.Laws.BytesArg
import Derived.Laws.BitsAllLaws
import Derived.Laws.AppendOwnNone
import Derived.Lib.SlBytesConst
import Derived.Deep.QuietTactic
import Derived.BigQuiet
import Derived.IntWalk
import Derived.WalkLawsBesides
import Derived.WalkSpells
import Derived.StillTailTactics
import Derived.Deep.RegionHeld3
import Derived.Deep.RegionLaw
import Derived.Test.YtcambhbmobepjaaGreatProg
import Derived.Deep.MidRow
import Derived.Great.BuildSlice
import Derived.Maps.AppendAt
import Derived.Laws.ResultCell
namespace Go.Proofs.YtcambhbmobepjaaGreat
set_option linter.unusedSimpArgs false
set_option linter.unusedVariables false
open Go.RowKit

/-- The value v is a slice of the bytes l, readable in w. -/
def IsBytes (w : World) (v : Value) (l : List UInt8) : Prop :=
  (v = .slice none 0 0 ∧ l = []) ∨
  ∃ x cap, v = .slice (some x) l.length cap ∧ l.length ≤ cap ∧ cap ≤ maxLen ∧ ∀ i, i < l.length → w.cell? (x.add i) = some (.int .u8 ((l[i]?.getD 0).toNat : Int))

theorem IsBytes.nil (w : World) : IsBytes w (.slice none 0 0) [] := .inl ⟨rfl, rfl⟩

theorem IsBytes.below {w w' : World} {v : Value} {l : List UInt8} (h : IsBytes w v l) (hb : Below w.heap.size w w') : IsBytes w' v l := by
  rcases h with h | ⟨x, cap, rfl, h1, h2, h3⟩
  · exact .inl h
  · refine .inr ⟨x, cap, rfl, h1, h2, fun i hi => ?_⟩
    have := h3 i hi
    rw [hb.cell (World.block_lt_of_cell? w _ this)]
    exact this

theorem IsBytes.shape {w : World} {v : Value} {l : List UInt8} (h : IsBytes w v l) : ∃ a cap, v = .slice a l.length cap ∧ l.length ≤ cap ∧ cap ≤ maxLen := by
  rcases h with ⟨rfl, rfl⟩ | ⟨x, cap, rfl, h1, h2, _⟩
  · exact ⟨none, 0, rfl, Nat.le_refl _, Nat.zero_le _⟩
  · exact ⟨some x, cap, rfl, h1, h2⟩
theorem IsBytes.len_le {w : World} {v : Value} {l : List UInt8} (h : IsBytes w v l) : l.length ≤ 9223372036854775807 := by
  obtain ⟨_, _, _, h1, h2⟩ := h.shape
  unfold maxLen at h2; omega

theorem ret_eq {a b : Value} (h : a = b) : Ending.returned a = .returned b := by rw [h]
theorem int_eq {k : IntKind} {a b : Int} (h : a = b) : Value.int k a = .int k b := by rw [h]
theorem bool_eq {a b : Bool} (h : a = b) : Value.bool a = .bool b := by rw [h]

theorem u8_lt (a : UInt8) : a.toNat < 256 := a.toNat_lt
theorem u8_or_u (a b : UInt8) : bits .or .u8 (a.toNat : Int) (b.toNat : Int) = ((a ||| b).toNat : Int) := by rw [u8_or_nat _ _ (u8_lt a) (u8_lt b), UInt8.toNat_or]
theorem u8_xor_u (a b : UInt8) : bits .xor .u8 (a.toNat : Int) (b.toNat : Int) = ((a ^^^ b).toNat : Int) := by rw [u8_xor_nat _ _ (u8_lt a) (u8_lt b), UInt8.toNat_xor]
theorem u8_and_u (a b : UInt8) : bits .and .u8 (a.toNat : Int) (b.toNat : Int) = ((a &&& b).toNat : Int) := by rw [u8_and_nat _ _ (u8_lt a) (u8_lt b), UInt8.toNat_and]

theorem below_drewN' {B : Nat} {a w : World} (h : Below B a w) (n : Nat) : Below B a (w.drewN n) := h.trans (⟨rfl, rfl, rfl, Nat.le_refl _, fun _ _ => rfl⟩)

/-- src is nil, or a slice of the cells news. -/
def SrcOf (w : World) (size : Nat) (src : Value) (m : Nat) (news : List Value) : Prop :=
  (src = .slice none 0 0 ∧ m = 0 ∧ news = []) ∨
  ∃ ad c, src = .slice (some ad) m c ∧ news.length = m * size ∧ (∀ j u, news[j]? = some u → w.cell? (ad.add j) = some u) ∧ ∀ u ∈ news, u.oneCell' = true

/-- t is the type of slices of e; an element takes so many cells and bytes. -/
structure ElemOf (P : Program) (t e : TypeId) (size bytes : Nat) (z : Value) : Prop where
  ht : P.underlying t = some (.slice e)
  ex : ∃ i, P.info? e = some i ∧ i.zero = some z ∧ i.size = size ∧ i.bytes = bytes
  hzs : z.cells.size = size
  pos : 0 < size
  one : 1 ≤ bytes

theorem wp_append_from {P : Program} {w : World} {o : Oper} {a : Act} {K : Act → World → Prop} {Q : Exit → Act → World → Prop} (s x : Operand) (t : TypeId)
    (ho : o.op = .call { callee := .builtin .append, args := #[s, x], argTypes := #[t, t] })
    (base : Nat) {e : TypeId} {size bytes : Nat} {z : Value} (hE : ElemOf P t e size bytes z)
    {v : Value} {n : Nat} {xs : List Value} (hs : a.eval s = v) (hown : w.ownsRow base e size v n xs)
    {src : Value} {m : Nat} {news : List Value} (hx : a.eval x = src) (hsrc : SrcOf w size src m news)
    (hbytes : (n + m) * bytes ≤ 140737488355328) (hbase : base ≤ w.heap.size)
    (h : ∀ v' w', w'.ownsRow base e size v' (n + m) (xs ++ news) → w.grownBy w' v.ownBlock → Below base w w' → K (a.put o.dst v') w') : o.wp P a w K Q := by
  obtain ⟨ht, ⟨i, hi, hz, hsize, hby⟩, hzs, hpos, hone⟩ := hE
  have hlt := hown.lt
  have h63 : n + m ≤ maxLen := by
    have := Nat.le_trans (Nat.le_mul_of_pos_right (n + m) hone) hbytes
    unfold maxLen; omega
  rcases hsrc with ⟨rfl, rfl, rfl⟩ | ⟨ad, c, rfl, hl, hnews, h1⟩
  · have hrun := run_append_owned_none (P := P) (w := w) base t o.type e i size ht hi v n xs hown
    have hk := h v w (by simpa using hown) ⟨rfl, rfl, rfl, Nat.le_refl _, fun _ _ _ => rfl⟩ (Below.refl _ _)
    unfold Oper.wp
    simp [execOp, ho, resolve, invoke, builtin, hs, hx, hrun, Result.andThen]
    exact hk
  · refine wp_append_own w s x t ho base e i z size bytes ht hi hz hsize hby hzs hpos v n xs hs hown ad m c news hx hl hnews h1 h63 hbytes hbase ?_
    intro v' w' ho' hg' _
    exact h v' w' ho' hg' ((Below.refl base w).grown hg' hbase (fun k hk => (hlt k hk).1))

theorem wpList_append_from {P : Program} {w : World} {ops : Array Oper} {rest : List Oper} {o : Oper} {a : Act} {Q : Exit → Act → World → Prop} (hgd : o.guard = none) (s x : Operand) (t : TypeId)
    (ho : o.op = .call { callee := .builtin .append, args := #[s, x], argTypes := #[t, t] })
    (base : Nat) {e : TypeId} {size bytes : Nat} {z : Value} (hE : ElemOf P t e size bytes z)
    {v : Value} {n : Nat} {xs : List Value} (hs : a.eval s = v) (hown : w.ownsRow base e size v n xs)
    {src : Value} {m : Nat} {news : List Value} (hx : a.eval x = src) (hsrc : SrcOf w size src m news)
    (hbytes : (n + m) * bytes ≤ 140737488355328) (hbase : base ≤ w.heap.size)
    (h : ∀ v' w', w'.ownsRow base e size v' (n + m) (xs ++ news) → w.grownBy w' v.ownBlock → Below base w w' → wpList P ops Q rest (a.put o.dst v') w') : wpList P ops Q (o :: rest) a w :=
  wpList_plain hgd fun _ hK => wp_append_from s x t ho base hE hs hown hx hsrc hbytes hbase fun v' w' h1 h2 h3 => hK _ _ (h v' w' h1 h2 h3)

/-- The same, at a step of a region that draws its order. -/
theorem step_append_from {P : Program} {w : World} {ops : Array Oper} {o : Oper} {a : Act} {K : Act → World → Prop} {Q : Exit → Act → World → Prop} {E : Prop} (hgd : o.guard = none) (s x : Operand) (t : TypeId)
    (ho : o.op = .call { callee := .builtin .append, args := #[s, x], argTypes := #[t, t] })
    (base : Nat) {e : TypeId} {size bytes : Nat} {z : Value} (hE : ElemOf P t e size bytes z)
    {v : Value} {n : Nat} {xs : List Value} (hs : a.eval s = v) (hown : w.ownsRow base e size v n xs)
    {src : Value} {m : Nat} {news : List Value} (hx : a.eval x = src) (hsrc : SrcOf w size src m news)
    (hbytes : (n + m) * bytes ≤ 140737488355328) (hbase : base ≤ w.heap.size)
    (h : ∀ v' w', w'.ownsRow base e size v' (n + m) (xs ++ news) → w.grownBy w' v.ownBlock → Below base w w' → K (a.put o.dst v') w') :
    if Region.wanted o (yielded ops a.tmps) = true then Oper.wp P o a w K Q else E := by
  have hw : Region.wanted o (yielded ops a.tmps) = true := by simp [Region.wanted, hgd]
  rw [if_pos hw]
  exact wp_append_from s x t ho base hE hs hown hx hsrc hbytes hbase h

theorem foldl_push_u8 : ∀ (l : List UInt8) (s : ByteArray), (l.map fun b => (b.toNat : Int)).foldl (fun r n => r.push (UInt8.ofNat n.toNat)) s = ⟨s.data ++ l.toArray⟩
  | [], s => by simp
  | b :: l, s => by
    rw [List.map_cons, List.foldl_cons, foldl_push_u8 l]
    simp [ByteArray.push]

/-- 'string(b)' -/
theorem run_string_bytes {P : Program} {w : World} {src dst e : TypeId} (hs : P.underlying src = some (.slice e)) (he : P.underlying e = some (.int .u8)) (hd : P.underlying dst = some .string) {v : Value} {l : List UInt8} (h : IsBytes w v l) :
    (convert src dst v).run P w = .ok (.string ⟨l.toArray⟩) w := by
  rcases h with ⟨rfl, rfl⟩ | ⟨x, cap, rfl, h1, h2, h3⟩
  · exact run_convert_bytes_nil w src e hs he 0 0 dst hd
  · have hl : (loadCells x l.length).run P w = .ok ((l.map fun b => (b.toNat : Int)).map (Value.int .u8)).toArray w := by
      have := run_loadCells_list (P := P) w x ((l.map fun b => (b.toNat : Int)).map (Value.int .u8)) (fun j v hj => by
        have hjl : j < l.length := by
          rcases Nat.lt_or_ge j l.length with h | h
          · exact h
          · simp [List.getElem?_eq_none h] at hj
        rw [h3 j hjl]
        simp [hjl] at hj
        simp [hjl, hj])
      simpa using this
    rw [run_convert_bytes_string w src dst e _ _ cap hs he hd, run_bytesToString w _ _ cap _ hl, foldl_push_u8]
    simp [ByteArray.empty, ByteArray.emptyWithCapacity]
    rfl

theorem run_equalIn_six {P : Program} (w : World) (n : Nat) (t e : TypeId) (ht : P.underlying t = some (.array 6 e)) (he : P.underlying e = some (.int .u8)) (hi : (P.info? e).map (·.size) = some 1) (a b c d e' f a1 b1 c1 d1 e1 f1 : Int) :
    (Op.equalIn (n + 2) t (.agg #[.int .u8 a, .int .u8 b, .int .u8 c, .int .u8 d, .int .u8 e', .int .u8 f]) (.agg #[.int .u8 a1, .int .u8 b1, .int .u8 c1, .int .u8 d1, .int .u8 e1, .int .u8 f1])).run P w = .ok (a == a1 && (b == b1 && (c == c1 && (d == d1 && (e' == e1 && f == f1))))) w := by
  obtain ⟨i, hi1, hi2⟩ : ∃ i, P.info? e = some i ∧ i.size = 1 := by
    cases h : P.info? e with
    | none => simp [h] at hi
    | some i => simp [h] at hi; exact ⟨i, rfl, hi⟩
  unfold Op.equalIn
  simp only [Sem.run_bind, run_underlying ht, Result.andThen_ok]
  simp [sizeOf, typeInfo, hi1, hi2, Std.Legacy.Range.forIn_eq_forIn_range', List.range', part, isAgg, run_underlying he, run_equalIn_int w n e _ _ _ _ he]
  by_cases h1 : a = a1
  · by_cases h2 : b = b1
    · by_cases h3 : c = c1
      · by_cases h4 : d = d1
        · by_cases h5 : e' = e1
          · by_cases h6 : f = f1 <;> simp [h1, h2, h3, h4, h5, h6]
          · simp [h1, h2, h3, h4, h5]
        · simp [h1, h2, h3, h4]
      · simp [h1, h2, h3]
    · simp [h1, h2]
  · simp [h1]

/-- 'a[l:h]' of an array of bytes behind a pointer -/
theorem run_slice_array {P : Program} {t e : TypeId} {n : Nat} (ht : P.underlying t = some (.array n e)) (hs : (P.info? e).map (·.size) = some 1) (B : Nat) (l h : Nat) (h1 : l ≤ h) (h2 : h ≤ n) (h3 : l < n) (kl kh : IntKind) (W : World) :
    (Instr.sliceAt t (.pointer (some ⟨B, 0, none⟩)) (some (.int kl (l : Int))) (some (.int kh (h : Int))) none).run P W = .ok (.slice (some ⟨B, l, none⟩) (h - l) (n - l)) W := by
  obtain ⟨i, hi1, hi2⟩ : ∃ i, P.info? e = some i ∧ i.size = 1 := by
    cases h : P.info? e with
    | none => simp [h] at hs
    | some i => simp [h] at hs; exact ⟨i, rfl, hs⟩
  have hn : ¬ n = l := by omega
  have hadd : (⟨B, 0, none⟩ : Addr).add l = ⟨B, l, none⟩ := by unfold Addr.add; split <;> simp_all
  simp [Instr.sliceAt, Instr.sureAddr, run_underlying ht, Instr.sliceBounds, run_sliceBound, sizeOf, typeInfo, hi1, hi2, hn, hadd, (by omega : (0 : Int) ≤ l), (by omega : (0 : Int) ≤ h), (by omega : (h : Int) ≤ n), (by omega : (l : Int) ≤ h)]

theorem alloc2 (w : World) (o1 o2 : Obj) : ((w.alloc o1).alloc o2).heap[w.heap.size]? = some o1 ∧ ((w.alloc o1).alloc o2).heap[w.heap.size + 1]? = some o2 ∧ ((w.alloc o1).alloc o2).heap.size = w.heap.size + 1 + 1 := by
  refine ⟨?_, ?_, by simp⟩
  · rw [heap_alloc_old _ _ (by simp)]; exact heap_alloc_new w o1
  · have := heap_alloc_new (w.alloc o1) o2
    rwa [World.size_alloc] at this
theorem alloc3 (w : World) (o1 o2 o3 : Obj) : (((w.alloc o1).alloc o2).alloc o3).heap[w.heap.size]? = some o1 ∧ (((w.alloc o1).alloc o2).alloc o3).heap[w.heap.size + 1]? = some o2 ∧
    (((w.alloc o1).alloc o2).alloc o3).heap[w.heap.size + 1 + 1]? = some o3 ∧ (((w.alloc o1).alloc o2).alloc o3).heap.size = w.heap.size + 1 + 1 + 1 ∧ Below w.heap.size w (((w.alloc o1).alloc o2).alloc o3) := by
  obtain ⟨h1, h2, h3⟩ := alloc2 w o1 o2
  refine ⟨?_, ?_, ?_, by simp, (((Below.refl _ _).alloc (Nat.le_refl _) _).alloc (by simp) _).alloc (by simp; omega) _⟩
  · rw [heap_alloc_old _ _ (by rw [h3]; omega)]; exact h1
  · rw [heap_alloc_old _ _ (by rw [h3]; omega)]; exact h2
  · have := heap_alloc_new ((w.alloc o1).alloc o2) o3
    rwa [h3] at this

theorem six_cells {w : World} {g : Nat} {t : TypeId} {a b c d e f : Value} (h : w.heap[g]? = some (.cells #[a, b, c, d, e, f] t (0, 0))) :
    w.cell? ⟨g, 0, none⟩ = some a ∧ w.cell? ⟨g, 1, none⟩ = some b ∧ w.cell? ⟨g, 2, none⟩ = some c ∧ w.cell? ⟨g, 3, none⟩ = some d ∧ w.cell? ⟨g, 4, none⟩ = some e ∧ w.cell? ⟨g, 5, none⟩ = some f ∧ ∀ j, w.frozen? ⟨g, j, none⟩ = false := by
  refine ⟨?_, ?_, ?_, ?_, ?_, ?_, fun j => frozen_of_row w g j _ t h⟩ <;> (rw [cell_of_row w g _ _ t _ h]; rfl)

theorem str_beq (L L' : List UInt8) : ((⟨L.toArray⟩ : ByteArray).toList == (⟨L'.toArray⟩ : ByteArray).toList) = (L == L') := by
  rw [ByteArray.toList_eq, ByteArray.toList_eq]

theorem below_next {w W w2 : World} (h : Below W.heap.size W w2) (hB : Below w.heap.size w W) : Below w.heap.size w w2 := hB.trans (h.mono hB.size)
theorem below_drewB {w W : World} (h : Below w.drew.heap.size w.drew W) : Below w.heap.size w W := (Below.refl w.heap.size w).drew.trans h
theorem cell_below {w W : World} {a : Addr} {v : Value} (h : w.cell? a = some v) (hB : Below w.heap.size w W) : W.cell? a = some v := by
  rw [hB.cell (World.block_lt_of_cell? w _ h)]; exact h

/-- a block of cells that was just made, as the source of an append -/
theorem src_block {w : World} {B : Nat} {cs : Array Value} {t : TypeId} {fr : Nat × Nat} (size m c : Nat) (hb : w.heap[B]? = some (.cells cs t fr)) (hl : cs.size = m * size) (h1 : ∀ u ∈ cs.toList, u.oneCell' = true) : SrcOf w size (.slice (some ⟨B, 0, none⟩) m c) m cs.toList := by
  refine .inr ⟨⟨B, 0, none⟩, c, rfl, by simpa using hl, fun j u hu => ?_, h1⟩
  have hadd : (⟨B, 0, none⟩ : Addr).add j = ⟨B, j, none⟩ := by unfold Addr.add; split <;> simp_all
  rw [hadd, cell_of_row w B j cs t fr hb]
  simpa using hu

abbrev bv (b : UInt8) : Value := .int .u8 (b.toNat : Int)

theorem IsBytes.src {w : World} {v : Value} {l : List UInt8} (h : IsBytes w v l) : SrcOf w 1 v l.length (l.map bv) := by
  rcases h with ⟨rfl, rfl⟩ | ⟨x, cap, rfl, h1, h2, h3⟩
  · exact .inl ⟨rfl, rfl, rfl⟩
  · refine .inr ⟨x, cap, rfl, by simp, ?_, ?_⟩
    · intro j u hu
      rw [List.getElem?_map] at hu
      cases hj : l[j]? with
      | none => simp [hj] at hu
      | some b =>
        simp [hj] at hu
        subst hu
        have hlt : j < l.length := by
          rcases Nat.lt_or_ge j l.length with h | h
          · exact h
          · simp [List.getElem?_eq_none h] at hj
        rw [h3 j hlt, hj]; rfl
    · intro u hu
      obtain ⟨_, _, rfl⟩ := List.mem_map.1 hu
      rfl

theorem addr_add (x : Addr) (a b : Nat) : (x.add a).add b = x.add (a + b) := by
  unfold Addr.add
  by_cases h : a = 0 <;> by_cases h' : b = 0 <;> simp [h, h', Nat.add_assoc]

/-- 'v[k:]' at the end of the room keeps the address. -/
theorem src_drop_all {w : World} (x : Addr) (l : List UInt8) : SrcOf w 1 (.slice (some x) 0 0) 0 ((l.drop l.length).map bv) := by
  rw [List.drop_length]
  exact .inr ⟨x, 0, rfl, rfl, fun j u hu => by simp at hu, fun u hu => by simp at hu⟩
/-- 'v[k:]' -/
theorem src_drop {w : World} {x : Addr} {l : List UInt8} (h3 : ∀ i, i < l.length → w.cell? (x.add i) = some (.int .u8 ((l[i]?.getD 0).toNat : Int))) (k c : Nat) :
    SrcOf w 1 (.slice (some (x.add k)) (l.length - k) c) (l.length - k) ((l.drop k).map bv) := by
  refine .inr ⟨x.add k, c, rfl, by simp, ?_, ?_⟩
  · intro j u hu
    rw [List.getElem?_map, List.getElem?_drop] at hu
    by_cases hj : k + j < l.length
    · simp [hj] at hu
      subst hu
      rw [addr_add, h3 _ hj]
      simp [hj]
    · simp [hj] at hu
  · intro u hu
    obtain ⟨_, _, rfl⟩ := List.mem_map.1 hu
    rfl
theorem SrcOf.alloc {w : World} {size : Nat} {src : Value} {m : Nat} {news : List Value} (h : SrcOf w size src m news) (o : Obj) : SrcOf (w.alloc o) size src m news := by
  rcases h with h | ⟨ad, c, rfl, h1, h2, h3⟩
  · exact .inl h
  · exact .inr ⟨ad, c, rfl, h1, fun j u hu => (World.cell?_alloc_lt _ _ _ (World.block_lt_of_cell? w _ (h2 j u hu))).trans (h2 j u hu), h3⟩
/-- '[]T{}' -/
theorem own_empty (w : World) (base : Nat) (hb : base ≤ w.heap.size) (e : TypeId) (size : Nat) : (w.alloc (.cells #[] e)).ownsRow base e size (.slice (some ⟨w.heap.size, 0, none⟩) 0 0) 0 [] :=
  World.ownsRow_made w #[] 0 hb (by simp) (by simp)
/-- a block of bytes that was just made -/
theorem bytes_block {w : World} {B : Nat} {t : TypeId} {fr : Nat × Nat} (l : List UInt8) (c : Nat) (hb : w.heap[B]? = some (.cells (l.map bv).toArray t fr)) (h1 : l.length ≤ c) (h2 : c ≤ maxLen) : IsBytes w (.slice (some ⟨B, 0, none⟩) l.length c) l := by
  refine .inr ⟨⟨B, 0, none⟩, c, rfl, h1, h2, fun i hi => ?_⟩
  have hadd : (⟨B, 0, none⟩ : Addr).add i = ⟨B, i, none⟩ := by unfold Addr.add; split <;> simp_all
  rw [hadd, cell_of_row w B i _ t fr hb]
  simp [hi]

/-- A row of bytes that the call owns reads as these bytes. -/
theorem own_bytes {w : World} {base : Nat} {e : TypeId} {v : Value} {n : Nat} {l : List UInt8} (h : w.ownsRow base e 1 v n (l.map bv)) : IsBytes w v l := by
  have hn : n = l.length := by have := h.1; simp at this; exact this.symm
  subst hn
  have hc := h
  obtain ⟨_, h⟩ := h
  rcases h with ⟨rfl, h⟩ | ⟨g, cap, cur, rfl, _, hg, h1, h2, h3, h4⟩
  · exact .inl ⟨rfl, List.eq_nil_of_length_eq_zero h⟩
  · refine .inr ⟨⟨g, 0, none⟩, cap, rfl, h1, h2, fun i hi => ?_⟩
    refine hc.cells (g := g) rfl i _ ?_
    rw [List.getElem?_map]
    simp [hi]

theorem own_drewN {w : World} {base : Nat} {e : TypeId} {size : Nat} {v : Value} {n : Nat} {xs : List Value} (h : w.ownsRow base e size v n xs) (m : Nat) : (w.drewN m).ownsRow base e size v n xs := h

theorem own_below {w w' : World} {base : Nat} {e : TypeId} {size : Nat} {v : Value} {n : Nat} {xs : List Value} (h : w.ownsRow base e size v n xs) (hb : Below w.heap.size w w') : w'.ownsRow base e size v n xs := by
  refine ⟨h.1, ?_⟩
  rcases h.2 with h2 | ⟨g, cap, cur, hv, hg, hh, r⟩
  · exact .inl h2
  · exact .inr ⟨g, cap, cur, hv, hg, by rw [hb.block g (Array.getElem?_eq_some_iff.1 hh).1]; exact hh, r⟩

theorem own_frozen {w : World} {base : Nat} {e : TypeId} {size : Nat} {g n c : Nat} {xs : List Value} (h : w.ownsRow base e size (.slice (some ⟨g, 0, none⟩) n c) n xs) (j : Nat) : w.frozen? ⟨g, j, none⟩ = false := by
  obtain ⟨_, h⟩ := h
  rcases h with ⟨h, _⟩ | ⟨g', cap, cur, hv, _, hg, _⟩
  · cases h
  · cases hv
    simp [World.frozen?, hg]

theorem own_cell {w : World} {base : Nat} {e : TypeId} {size : Nat} {g n c : Nat} {xs : List Value} (h : w.ownsRow base e size (.slice (some ⟨g, 0, none⟩) n c) n xs) (j : Nat) (u : Value) (hu : xs[j]? = some u) : w.cell? ⟨g, j, none⟩ = some u := by
  have := h.cells (g := g) rfl j u hu
  rwa [show (⟨g, 0, none⟩ : Addr).add j = ⟨g, j, none⟩ by unfold Addr.add; split <;> simp_all] at this

theorem own_set {w : World} {base : Nat} {e : TypeId} {size : Nat} {g n c : Nat} {xs : List Value} (h : w.ownsRow base e size (.slice (some ⟨g, 0, none⟩) n c) n xs) (j : Nat) (u : Value) :
    (w.setCell ⟨g, j, none⟩ u).ownsRow base e size (.slice (some ⟨g, 0, none⟩) n c) n (xs.set j u) := by
  obtain ⟨hl, h⟩ := h
  refine ⟨by simpa using hl, ?_⟩
  rcases h with ⟨h, _⟩ | ⟨g', cap, cur, hv, hb, hg, h1, h2, h3, h4⟩
  · cases h
  · cases hv
    refine .inr ⟨g, c, cur.setIfInBounds j u, rfl, hb, ?_, h1, h2, by simpa using h3, ?_⟩
    · simp [World.setCell, Array.getElem?_modify, hg]
    · rw [Array.toList_setIfInBounds, List.take_set, h4]

theorem run_make_own_full {P : Program} {t e : TypeId} {size bytes : Nat} {z : Value} (hE : ElemOf P t e size bytes z) (w : World) (base : Nat) (kl kc : IntKind) (n : Nat) (hbytes : bytes * n ≤ 281474976710656) (h63 : n ≤ maxLen) (hbase : base ≤ w.heap.size) :
    ∃ w', (Instr.makeSlice t (.int kl (n : Int)) (.int kc (n : Int))).run P w = .ok (.slice (some ⟨w.heap.size, 0, none⟩) n n) w' ∧
      w'.ownsRow base e size (.slice (some ⟨w.heap.size, 0, none⟩) n n) n (madeCells z.cells (n * size)).toList ∧ Below w.heap.size w w' ∧ w'.heap.size = w.heap.size + 1 := by
  obtain ⟨ht, ⟨i, hi, hz, rfl, rfl⟩, hzs, hpos, hone⟩ := hE
  have h63' : (n : Int) ≤ 9223372036854775807 := by unfold maxLen at h63; omega
  have hr := run_make (P := P) w t e i z ht hi hz kl kc (n : Int) (n : Int) (by omega) (Int.le_refl _) (by rw [← Int.natCast_mul]; exact Int.ofNat_le.2 hbytes) h63'
  simp only [Int.toNat_natCast] at hr
  have hsz : (madeCells z.cells (n * i.size)).size = n * i.size := by
    simp [madeCells]
  refine ⟨_, hr, ⟨by simpa using hsz, .inr ⟨w.heap.size, n, _, rfl, hbase, heap_alloc_new w _, Nat.le_refl _, h63, hsz, ?_⟩⟩, (Below.refl _ _).alloc (Nat.le_refl _) _, by simp⟩
  rw [List.take_of_length_le (by simp [hsz])]

/-! A region that draws its order, walked once in the order of the text: reads are taken first, from one call to the next. -/
section rg
variable {P : Program} {ops : Array Oper} {Q : Exit → Act → World → Prop} {md : Region.Mode}

/-- what was there at wk is there still -/
def Sb (wk W : World) : Prop := Below wk.heap.size wk W

theorem Sb.refl (w : World) : Sb w w := Below.refl _ _

theorem wpAnyH_mono {S S2 : World → Prop} (h : ∀ w, S2 w → S w) : ∀ (fuel : Nat) (listed : Array Bool) (a : Act) (w : World), wpAnyH P md ops Q S2 fuel listed a w → wpAnyH P md ops Q S fuel listed a w
  | 0, _, _, _, hh => hh
  | fuel + 1, _, _, _, hh => ⟨hh.1, fun i hi => wpOp_mono (fun a' w' h' => ⟨h _ h'.1, wpAnyH_mono h fuel _ a' w' h'.2⟩) (hh.2 i hi)⟩

theorem rg_begin {id : Nat} {a : Act} {w : World} (hm : P.follows .mixedOrders = true)
    (h : wpAnyH P .any ops Q (Sb w.drew) ops.size (Array.replicate ops.size false) a w.drew) : (Code.region id ops true).wp P Q a w :=
  wp_region_held hm h

theorem rg_take {i : Nat} {oi : Oper} {v : Value} {fuel : Nat} {listed : Array Bool} {a : Act} {wk : World} (hi' : ops.toList[i]? = some oi)
    (hs : Region.noSelect ops = true) (hf : Region.free md ops listed i = true) (hr : (Region.ready md ops listed).contains i = true)
    (hQ : ∀ c a w, Q (.panic c) (a.put oi.dst v) w → Q (.panic c) a w) (hw : Region.wanted oi (yielded ops a.tmps) = true)
    (hy : ∀ W, Sb wk W → (execOp a.eval oi).run P W = .ok (.value v) W)
    (h : wpAnyH P md ops Q (Sb wk) fuel (listed.setIfInBounds i true) (a.put oi.dst v) wk) : wpAnyH P md ops Q (Sb wk) (fuel + 1) listed a wk :=
  wpAnyH_take (Array.getElem?_toList.symm.trans hi') hs hf hr hQ (.inl ⟨hw, hy⟩) (Sb.refl wk) h

theorem rg_skip {i : Nat} {oi : Oper} {fuel : Nat} {listed : Array Bool} {a : Act} {wk : World} (hi' : ops.toList[i]? = some oi)
    (hs : Region.noSelect ops = true) (hf : Region.free md ops listed i = true) (hr : (Region.ready md ops listed).contains i = true)
    (hQ : ∀ c a w, Q (.panic c) (a.put oi.dst undef) w → Q (.panic c) a w) (hw : Region.wanted oi (yielded ops a.tmps) = false)
    (h : wpAnyH P md ops Q (Sb wk) fuel (listed.setIfInBounds i true) (a.put oi.dst undef) wk) : wpAnyH P md ops Q (Sb wk) (fuel + 1) listed a wk :=
  wpAnyH_take (Array.getElem?_toList.symm.trans hi') hs hf hr hQ (.inr ⟨hw, rfl⟩) (Sb.refl wk) h

/-- A call that alone may come up. -/
theorem rg_call {i : Nat} {o : Oper} {f : FuncId} {args : Array Value} {fuel : Nat} {listed : Array Bool} {a : Act} {wk : World}
    (hr : Region.ready md ops listed = [i]) (hi' : ops.toList[i]? = some o) (hw : Region.wanted o (yielded ops a.tmps) = true)
    (hrun : (execOp a.eval o).run P wk = .ok (.enter f args) wk)
    (hc : Calls P f args wk fun e w' => ∃ v, e = .returned v ∧ Below wk.heap.size wk w' ∧ wpAnyH P md ops Q (Sb w') fuel (listed.setIfInBounds i true) (a.put o.dst v) w') :
    wpAnyH P md ops Q (Sb wk) (fuel + 1) listed a wk := by
  have hi : ops[i]? = some o := Array.getElem?_toList.symm.trans hi'
  refine wpAnyH_all hr (by simp) fun j hj => ?_
  obtain rfl : j = i := by simpa using hj
  unfold wpOp
  simp only [hi, hw, if_true]
  refine .inl ?_
  unfold Oper.wp
  rw [hrun, Oper.upon_enter]
  refine Calls.mono hc ?_
  rintro e w' ⟨v, rfl, hb, hk⟩
  exact ⟨hb, wpAnyH_mono (fun W hW => below_next hW hb) _ _ _ _ hk⟩

/-- An operation that makes memory and alone may come up. -/
theorem rg_make {i : Nat} {o : Oper} {v : Value} {w' : World} {fuel : Nat} {listed : Array Bool} {a : Act} {wk : World}
    (hr : Region.ready md ops listed = [i]) (hi' : ops.toList[i]? = some o) (hw : Region.wanted o (yielded ops a.tmps) = true)
    (hrun : (execOp a.eval o).run P wk = .ok (.value v) w') (hb : Below wk.heap.size wk w')
    (hk : wpAnyH P md ops Q (Sb w') fuel (listed.setIfInBounds i true) (a.put o.dst v) w') :
    wpAnyH P md ops Q (Sb wk) (fuel + 1) listed a wk := by
  have hi : ops[i]? = some o := Array.getElem?_toList.symm.trans hi'
  refine wpAnyH_all hr (by simp) fun j hj => ?_
  obtain rfl : j = i := by simpa using hj
  unfold wpOp
  simp only [hi, hw, if_true]
  refine .inl ?_
  unfold Oper.wp
  rw [hrun, Oper.upon_value]
  exact ⟨hb, wpAnyH_mono (fun W hW => below_next hW hb) _ _ _ _ hk⟩

theorem rg_done {listed : Array Bool} {a : Act} {wk : World} {fuel : Nat} (hr : Region.ready md ops listed = []) (h : Q .normal a wk) : wpAnyH P md ops Q (Sb wk) fuel listed a wk :=
  wpAnyH_done hr h fuel
end rg
end Go.Proofs.YtcambhbmobepjaaGreat

namespace Go.Proofs.YtcambhbmobepjaaGreat
set_option linter.unusedSimpArgs false
set_option linter.unusedVariables false
open Go.RowKit
section rg
variable {P : Program} {ops : Array Oper} {Q : Exit → Act → World → Prop} {md : Region.Mode} {B : Nat}

/-- what was there below B at wk is there still -/
def Sn (B : Nat) (wk W : World) : Prop := Below B wk W

theorem rn_begin (B : Nat) {id : Nat} {a : Act} {w : World} (hm : P.follows .mixedOrders = true)
    (h : wpAnyH P .any ops Q (Sn B w.drew) ops.size (Array.replicate ops.size false) a w.drew) : (Code.region id ops true).wp P Q a w :=
  wp_region_held hm h

theorem rn_take {i : Nat} {oi : Oper} {v : Value} {fuel : Nat} {listed : Array Bool} {a : Act} {wk : World} (hi' : ops.toList[i]? = some oi)
    (hs : Region.noSelect ops = true) (hf : Region.free md ops listed i = true) (hr : (Region.ready md ops listed).contains i = true)
    (hQ : ∀ c a w, Q (.panic c) (a.put oi.dst v) w → Q (.panic c) a w) (hw : Region.wanted oi (yielded ops a.tmps) = true)
    (hy : ∀ W, Sn B wk W → (execOp a.eval oi).run P W = .ok (.value v) W)
    (h : wpAnyH P md ops Q (Sn B wk) fuel (listed.setIfInBounds i true) (a.put oi.dst v) wk) : wpAnyH P md ops Q (Sn B wk) (fuel + 1) listed a wk :=
  wpAnyH_take (Array.getElem?_toList.symm.trans hi') hs hf hr hQ (.inl ⟨hw, hy⟩) (Below.refl _ wk) h

theorem rn_skip {i : Nat} {oi : Oper} {fuel : Nat} {listed : Array Bool} {a : Act} {wk : World} (hi' : ops.toList[i]? = some oi)
    (hs : Region.noSelect ops = true) (hf : Region.free md ops listed i = true) (hr : (Region.ready md ops listed).contains i = true)
    (hQ : ∀ c a w, Q (.panic c) (a.put oi.dst undef) w → Q (.panic c) a w) (hw : Region.wanted oi (yielded ops a.tmps) = false)
    (h : wpAnyH P md ops Q (Sn B wk) fuel (listed.setIfInBounds i true) (a.put oi.dst undef) wk) : wpAnyH P md ops Q (Sn B wk) (fuel + 1) listed a wk :=
  wpAnyH_take (Array.getElem?_toList.symm.trans hi') hs hf hr hQ (.inr ⟨hw, rfl⟩) (Below.refl _ wk) h

theorem rn_call {i : Nat} {o : Oper} {f : FuncId} {args : Array Value} {fuel : Nat} {listed : Array Bool} {a : Act} {wk : World}
    (hr : Region.ready md ops listed = [i]) (hi' : ops.toList[i]? = some o) (hw : Region.wanted o (yielded ops a.tmps) = true)
    (hrun : (execOp a.eval o).run P wk = .ok (.enter f args) wk)
    (hc : Calls P f args wk fun e w' => ∃ v, e = .returned v ∧ Below B wk w' ∧ wpAnyH P md ops Q (Sn B w') fuel (listed.setIfInBounds i true) (a.put o.dst v) w') :
    wpAnyH P md ops Q (Sn B wk) (fuel + 1) listed a wk := by
  have hi : ops[i]? = some o := Array.getElem?_toList.symm.trans hi'
  refine wpAnyH_all hr (by simp) fun j hj => ?_
  obtain rfl : j = i := by simpa using hj
  unfold wpOp
  simp only [hi, hw, if_true]
  refine .inl ?_
  unfold Oper.wp
  rw [hrun, Oper.upon_enter]
  refine Calls.mono hc ?_
  rintro e w' ⟨v, rfl, hb, hk⟩
  exact ⟨hb, wpAnyH_mono (fun W hW => Below.trans hb hW) _ _ _ _ hk⟩

theorem rn_make {i : Nat} {o : Oper} {v : Value} {w' : World} {fuel : Nat} {listed : Array Bool} {a : Act} {wk : World}
    (hr : Region.ready md ops listed = [i]) (hi' : ops.toList[i]? = some o) (hw : Region.wanted o (yielded ops a.tmps) = true)
    (hrun : (execOp a.eval o).run P wk = .ok (.value v) w') (hb : Below B wk w')
    (hk : wpAnyH P md ops Q (Sn B w') fuel (listed.setIfInBounds i true) (a.put o.dst v) w') :
    wpAnyH P md ops Q (Sn B wk) (fuel + 1) listed a wk := by
  have hi : ops[i]? = some o := Array.getElem?_toList.symm.trans hi'
  refine wpAnyH_all hr (by simp) fun j hj => ?_
  obtain rfl : j = i := by simpa using hj
  unfold wpOp
  simp only [hi, hw, if_true]
  refine .inl ?_
  unfold Oper.wp
  rw [hrun, Oper.upon_value]
  exact ⟨hb, wpAnyH_mono (fun W hW => Below.trans hb hW) _ _ _ _ hk⟩

/-- An append that alone may come up. -/
theorem rn_append {i : Nat} {o : Oper} {fuel : Nat} {listed : Array Bool} {a : Act} {wk : World}
    (hr : Region.ready md ops listed = [i]) (hi' : ops.toList[i]? = some o) (hw : Region.wanted o (yielded ops a.tmps) = true) (s x : Operand) (t : TypeId)
    (ho : o.op = .call { callee := .builtin .append, args := #[s, x], argTypes := #[t, t] })
    {e : TypeId} {size bytes : Nat} {z : Value} (hE : ElemOf P t e size bytes z)
    {v : Value} {n : Nat} {xs : List Value} (hs : a.eval s = v) (hown : wk.ownsRow B e size v n xs)
    {src : Value} {m : Nat} {news : List Value} (hx : a.eval x = src) (hsrc : SrcOf wk size src m news)
    (hbytes : (n + m) * bytes ≤ 140737488355328) (hbase : B ≤ wk.heap.size)
    (hk : ∀ v' w', w'.ownsRow B e size v' (n + m) (xs ++ news) → wk.grownBy w' v.ownBlock → Below B wk w' → wpAnyH P md ops Q (Sn B w') fuel (listed.setIfInBounds i true) (a.put o.dst v') w') :
    wpAnyH P md ops Q (Sn B wk) (fuel + 1) listed a wk := by
  have hi : ops[i]? = some o := Array.getElem?_toList.symm.trans hi'
  refine wpAnyH_all hr (by simp) fun j hj => ?_
  obtain rfl : j = i := by simpa using hj
  unfold wpOp
  simp only [hi, hw, if_true]
  refine .inl ?_
  refine wp_append_from s x t ho B hE hs hown hx hsrc hbytes hbase fun v' w' h1 h2 h3 => ?_
  exact ⟨h3, wpAnyH_mono (fun W hW => Below.trans h3 hW) _ _ _ _ (hk v' w' h1 h2 h3)⟩

/-- one operation of those that may come up -/
def rnSt (P : Program) (md : Region.Mode) (ops : Array Oper) (Q : Exit → Act → World → Prop) (B : Nat) (fuel : Nat) (listed : Array Bool) (a : Act) (wk : World) (i : Nat) : Prop :=
  wpOp P ops Q i (fun a' w' => Sn B wk w' ∧ wpAnyH P md ops Q (Sn B wk) fuel (listed.setIfInBounds i true) a' w') a wk

theorem rn_one {i : Nat} {fuel : Nat} {listed : Array Bool} {a : Act} {wk : World} (hr : Region.ready md ops listed = [i]) (h : rnSt P md ops Q B fuel listed a wk i) :
    wpAnyH P md ops Q (Sn B wk) (fuel + 1) listed a wk := by
  refine wpAnyH_all hr (by simp) fun j hj => ?_
  obtain rfl : j = i := by simpa using hj
  exact h

theorem rn_two {i j : Nat} {fuel : Nat} {listed : Array Bool} {a : Act} {wk : World} (hr : Region.ready md ops listed = [i, j]) (h : rnSt P md ops Q B fuel listed a wk i) (h2 : rnSt P md ops Q B fuel listed a wk j) :
    wpAnyH P md ops Q (Sn B wk) (fuel + 1) listed a wk := by
  refine wpAnyH_all hr (by simp) fun k hk => ?_
  rcases (by simpa using hk : k = i ∨ k = j) with rfl | rfl
  · exact h
  · exact h2

theorem st_call {i : Nat} {o : Oper} {f : FuncId} {args : Array Value} {fuel : Nat} {listed : Array Bool} {a : Act} {wk : World}
    (hi' : ops.toList[i]? = some o) (hw : Region.wanted o (yielded ops a.tmps) = true)
    (hrun : (execOp a.eval o).run P wk = .ok (.enter f args) wk)
    (hc : Calls P f args wk fun e w' => ∃ v, e = .returned v ∧ Below B wk w' ∧ wpAnyH P md ops Q (Sn B w') fuel (listed.setIfInBounds i true) (a.put o.dst v) w') :
    rnSt P md ops Q B fuel listed a wk i := by
  have hi : ops[i]? = some o := Array.getElem?_toList.symm.trans hi'
  unfold rnSt wpOp
  simp only [hi, hw, if_true]
  refine .inl ?_
  unfold Oper.wp
  rw [hrun, Oper.upon_enter]
  refine Calls.mono hc ?_
  rintro e w' ⟨v, rfl, hb, hk⟩
  exact ⟨hb, wpAnyH_mono (fun W hW => Below.trans hb hW) _ _ _ _ hk⟩

theorem st_make {i : Nat} {o : Oper} {v : Value} {w' : World} {fuel : Nat} {listed : Array Bool} {a : Act} {wk : World}
    (hi' : ops.toList[i]? = some o) (hw : Region.wanted o (yielded ops a.tmps) = true)
    (hrun : (execOp a.eval o).run P wk = .ok (.value v) w') (hb : Below B wk w')
    (hk : wpAnyH P md ops Q (Sn B w') fuel (listed.setIfInBounds i true) (a.put o.dst v) w') :
    rnSt P md ops Q B fuel listed a wk i := by
  have hi : ops[i]? = some o := Array.getElem?_toList.symm.trans hi'
  unfold rnSt wpOp
  simp only [hi, hw, if_true]
  refine .inl ?_
  unfold Oper.wp
  rw [hrun, Oper.upon_value]
  exact ⟨hb, wpAnyH_mono (fun W hW => Below.trans hb hW) _ _ _ _ hk⟩

theorem st_skip {i : Nat} {o : Oper} {w' : World} {fuel : Nat} {listed : Array Bool} {a : Act} {wk : World}
    (hi' : ops.toList[i]? = some o) (hw : Region.wanted o (yielded ops a.tmps) = true)
    (hrun : (execOp a.eval o).run P wk = .ok .skip w') (hb : Below B wk w')
    (hk : wpAnyH P md ops Q (Sn B w') fuel (listed.setIfInBounds i true) (a.put o.dst undef) w') :
    rnSt P md ops Q B fuel listed a wk i := by
  have hi : ops[i]? = some o := Array.getElem?_toList.symm.trans hi'
  unfold rnSt wpOp
  simp only [hi, hw, if_true]
  refine .inl ?_
  unfold Oper.wp
  rw [hrun, Oper.upon_skip]
  exact ⟨hb, wpAnyH_mono (fun W hW => Below.trans hb hW) _ _ _ _ hk⟩

theorem st_made {i : Nat} {o : Oper} {v : Value} {x : Obj} {fuel : Nat} {listed : Array Bool} {a : Act} {wk : World}
    (hi' : ops.toList[i]? = some o) (hw : Region.wanted o (yielded ops a.tmps) = true)
    (hrun : (execOp a.eval o).run P wk = .ok (.value v) (wk.alloc x)) (hB : B ≤ wk.heap.size)
    (hk : ∀ v' W, v' = v → W = wk.alloc x → Below B wk W → wpAnyH P md ops Q (Sn B W) fuel (listed.setIfInBounds i true) (a.put o.dst v') W) :
    rnSt P md ops Q B fuel listed a wk i :=
  st_make hi' hw hrun ((Below.refl _ _).alloc hB _) (hk _ _ rfl rfl ((Below.refl _ _).alloc hB _))

theorem rn_done {listed : Array Bool} {a : Act} {wk : World} {fuel : Nat} (hr : Region.ready md ops listed = []) (h : Q .normal a wk) : wpAnyH P md ops Q (Sn B wk) fuel listed a wk :=
  wpAnyH_done hr h fuel

/- the same, with whatever holds throughout -/
variable {S : World → Prop}
theorem rs_begin (S : World → Prop) {id : Nat} {a : Act} {w : World} (hm : P.follows .mixedOrders = true)
    (h : wpAnyH P .any ops Q S ops.size (Array.replicate ops.size false) a w.drew) : (Code.region id ops true).wp P Q a w :=
  wp_region_held hm h
theorem rs_take {i : Nat} {oi : Oper} {v : Value} {fuel : Nat} {listed : Array Bool} {a : Act} {wk : World} (hi' : ops.toList[i]? = some oi)
    (hs : Region.noSelect ops = true) (hf : Region.free md ops listed i = true) (hr : (Region.ready md ops listed).contains i = true)
    (hQ : ∀ c a w, Q (.panic c) (a.put oi.dst v) w → Q (.panic c) a w) (hw : Region.wanted oi (yielded ops a.tmps) = true)
    (hS : S wk) (hy : ∀ W, S W → (execOp a.eval oi).run P W = .ok (.value v) W)
    (h : wpAnyH P md ops Q S fuel (listed.setIfInBounds i true) (a.put oi.dst v) wk) : wpAnyH P md ops Q S (fuel + 1) listed a wk :=
  wpAnyH_take (Array.getElem?_toList.symm.trans hi') hs hf hr hQ (.inl ⟨hw, hy⟩) hS h
theorem rs_store {i : Nat} {o : Oper} {w' : World} {fuel : Nat} {listed : Array Bool} {a : Act} {wk : World} (hr : Region.ready md ops listed = [i])
    (hi' : ops.toList[i]? = some o) (hw : Region.wanted o (yielded ops a.tmps) = true)
    (hrun : (execOp a.eval o).run P wk = .ok .skip w') (hb : S w')
    (hk : wpAnyH P md ops Q S fuel (listed.setIfInBounds i true) (a.put o.dst undef) w') :
    wpAnyH P md ops Q S (fuel + 1) listed a wk := by
  have hi : ops[i]? = some o := Array.getElem?_toList.symm.trans hi'
  refine wpAnyH_all hr (by simp) fun j hj => ?_
  obtain rfl : j = i := by simpa using hj
  unfold wpOp
  simp only [hi, hw, if_true]
  refine .inl ?_
  unfold Oper.wp
  rw [hrun, Oper.upon_skip]
  exact ⟨hb, hk⟩
theorem rs_make {i : Nat} {o : Oper} {v : Value} {w' : World} {fuel : Nat} {listed : Array Bool} {a : Act} {wk : World} (hr : Region.ready md ops listed = [i])
    (hi' : ops.toList[i]? = some o) (hw : Region.wanted o (yielded ops a.tmps) = true)
    (hrun : (execOp a.eval o).run P wk = .ok (.value v) w') (hb : S w')
    (hk : wpAnyH P md ops Q S fuel (listed.setIfInBounds i true) (a.put o.dst v) w') :
    wpAnyH P md ops Q S (fuel + 1) listed a wk := by
  have hi : ops[i]? = some o := Array.getElem?_toList.symm.trans hi'
  refine wpAnyH_all hr (by simp) fun j hj => ?_
  obtain rfl : j = i := by simpa using hj
  unfold wpOp
  simp only [hi, hw, if_true]
  refine .inl ?_
  unfold Oper.wp
  rw [hrun, Oper.upon_value]
  exact ⟨hb, hk⟩
def rsSt (P : Program) (md : Region.Mode) (ops : Array Oper) (Q : Exit → Act → World → Prop) (S : World → Prop) (fuel : Nat) (listed : Array Bool) (a : Act) (wk : World) (i : Nat) : Prop :=
  wpOp P ops Q i (fun a' w' => S w' ∧ wpAnyH P md ops Q S fuel (listed.setIfInBounds i true) a' w') a wk
theorem rs_one {i : Nat} {fuel : Nat} {listed : Array Bool} {a : Act} {wk : World} (hr : Region.ready md ops listed = [i]) (h : rsSt P md ops Q S fuel listed a wk i) :
    wpAnyH P md ops Q S (fuel + 1) listed a wk := by
  refine wpAnyH_all hr (by simp) fun j hj => ?_
  obtain rfl : j = i := by simpa using hj
  exact h
theorem rs_two {i j : Nat} {fuel : Nat} {listed : Array Bool} {a : Act} {wk : World} (hr : Region.ready md ops listed = [i, j]) (h : rsSt P md ops Q S fuel listed a wk i) (h2 : rsSt P md ops Q S fuel listed a wk j) :
    wpAnyH P md ops Q S (fuel + 1) listed a wk := by
  refine wpAnyH_all hr (by simp) fun k hk => ?_
  rcases (by simpa using hk : k = i ∨ k = j) with rfl | rfl
  · exact h
  · exact h2
theorem ss_val {i : Nat} {o : Oper} {v : Value} {w' : World} {fuel : Nat} {listed : Array Bool} {a : Act} {wk : World}
    (hi' : ops.toList[i]? = some o) (hw : Region.wanted o (yielded ops a.tmps) = true)
    (hrun : (execOp a.eval o).run P wk = .ok (.value v) w') (hb : S w')
    (hk : wpAnyH P md ops Q S fuel (listed.setIfInBounds i true) (a.put o.dst v) w') : rsSt P md ops Q S fuel listed a wk i := by
  have hi : ops[i]? = some o := Array.getElem?_toList.symm.trans hi'
  unfold rsSt wpOp
  simp only [hi, hw, if_true]
  refine .inl ?_
  unfold Oper.wp
  rw [hrun, Oper.upon_value]
  exact ⟨hb, hk⟩
theorem ss_skip {i : Nat} {o : Oper} {w' : World} {fuel : Nat} {listed : Array Bool} {a : Act} {wk : World}
    (hi' : ops.toList[i]? = some o) (hw : Region.wanted o (yielded ops a.tmps) = true)
    (hrun : (execOp a.eval o).run P wk = .ok .skip w') (hb : S w')
    (hk : wpAnyH P md ops Q S fuel (listed.setIfInBounds i true) (a.put o.dst undef) w') : rsSt P md ops Q S fuel listed a wk i := by
  have hi : ops[i]? = some o := Array.getElem?_toList.symm.trans hi'
  unfold rsSt wpOp
  simp only [hi, hw, if_true]
  refine .inl ?_
  unfold Oper.wp
  rw [hrun, Oper.upon_skip]
  exact ⟨hb, hk⟩
theorem ss_call {i : Nat} {o : Oper} {f : FuncId} {args : Array Value} {fuel : Nat} {listed : Array Bool} {a : Act} {wk : World}
    (hi' : ops.toList[i]? = some o) (hw : Region.wanted o (yielded ops a.tmps) = true)
    (hrun : (execOp a.eval o).run P wk = .ok (.enter f args) wk)
    (hc : Calls P f args wk fun e w' => ∃ v, e = .returned v ∧ S w' ∧ wpAnyH P md ops Q S fuel (listed.setIfInBounds i true) (a.put o.dst v) w') : rsSt P md ops Q S fuel listed a wk i := by
  have hi : ops[i]? = some o := Array.getElem?_toList.symm.trans hi'
  unfold rsSt wpOp
  simp only [hi, hw, if_true]
  refine .inl ?_
  unfold Oper.wp
  rw [hrun, Oper.upon_enter]
  refine Calls.mono hc ?_
  rintro e w' ⟨v, rfl, hb, hk⟩
  exact ⟨hb, hk⟩
theorem rs_done {listed : Array Bool} {a : Act} {wk : World} {fuel : Nat} (hr : Region.ready md ops listed = []) (h : Q .normal a wk) : wpAnyH P md ops Q S fuel listed a wk :=
  wpAnyH_done hr h fuel
end rg
end Go.Proofs.YtcambhbmobepjaaGreat

namespace Go.Proofs.YtcambhbmobepjaaGreat
set_option linter.unusedSimpArgs false
set_option linter.unusedVariables false
open Go.RowKit
set_option maxRecDepth 10000

/-- n cells of block b from o on -/
def rng (w : World) (b o n : Nat) : Option (List Value) :=
  match w.heap[b]? with
  | some (.cells c _ _) => if o + n ≤ c.size then some ((c.toList.drop o).take n) else none
  | _ => none
theorem rng_len {w : World} {b o n : Nat} {cs : List Value} (h : rng w b o n = some cs) : cs.length = n := by
  unfold rng at h
  split at h
  · split at h
    · rename_i hle
      cases h
      simp only [List.length_take, List.length_drop, Array.length_toList]
      omega
    · cases h
  · cases h
theorem rng_at {w : World} {b o n : Nat} {cs : List Value} (h : rng w b o n = some cs) : w.rangeAt b o cs := by
  have hl := rng_len h
  unfold rng at h
  split at h
  · rename_i c t fr hb
    split at h
    · cases h
      intro j v hv
      rw [cell_of_row w b _ c t fr hb]
      have hj : j < n := by
        have := (List.getElem?_eq_some_iff.1 hv).1
        omega
      rw [List.getElem?_take_of_lt hj, List.getElem?_drop] at hv
      simpa using hv
    · cases h
  · cases h
theorem rng_of {w : World} {b o : Nat} {cs : List Value} (h : w.rangeAt b o cs) (h1 : cs ≠ []) : rng w b o cs.length = some cs := by
  obtain ⟨x, xs, rfl⟩ := List.exists_cons_of_ne_nil h1
  have h0 := h 0 x rfl
  obtain ⟨c, t, fr, hb⟩ : ∃ c t fr, w.heap[b]? = some (.cells c t fr) := by
    unfold World.cell? at h0
    split at h0
    · rename_i c t fr hb; exact ⟨c, t, fr, hb⟩
    · cases h0
  have hc : ∀ j v, (x :: xs)[j]? = some v → c[o + j]? = some v := fun j v hv => by
    have := h j v hv
    rwa [cell_of_row w b _ c t fr hb] at this
  unfold rng
  rw [hb]
  have hle : o + (x :: xs).length ≤ c.size := by
    have := (Array.getElem?_eq_some_iff.1 (hc ((x :: xs).length - 1) _ (List.getElem?_eq_getElem (by simp)))).1
    simp at this ⊢; omega
  simp only [hle, if_true, Option.some.injEq]
  refine List.ext_getElem? fun j => ?_
  by_cases hj : j < (x :: xs).length
  · rw [List.getElem?_take_of_lt hj, List.getElem?_drop, List.getElem?_eq_getElem hj]
    simpa using hc j _ (List.getElem?_eq_getElem hj)
  · rw [List.getElem?_eq_none (by simp at hj ⊢; omega), List.getElem?_eq_none (by omega)]
theorem rng_block {w : World} {b : Nat} {cs : Array Value} {t : TypeId} {fr : Nat × Nat} (h : w.heap[b]? = some (.cells cs t fr)) : rng w b 0 cs.size = some cs.toList := by
  unfold rng; rw [h]; simp [List.take_of_length_le]
theorem rng_below {B : Nat} {w w' : World} (hb : Below B w w') {b o n : Nat} (h : b < B) : rng w' b o n = rng w b o n := by
  unfold rng; rw [hb.block b h]

/-- a load of a struct of n cells -/
def ldr (P : Program) (t n : Nat) (v : Value) (w : World) : Result Next :=
  match v with
  | .pointer (some ⟨b, o, none⟩) =>
    match rng w b o n with
    | some cs => .ok (.value (.agg cs.toArray)) w
    | none => (do pure (Next.value (← Instr.loadAt t v)) : Sem Next).run P w
  | _ => (do pure (Next.value (← Instr.loadAt t v)) : Sem Next).run P w
/-- t is a struct, or an array, of n cells -/
structure RowOf (P : Program) (t n : Nat) : Prop where
  und : (P.underlying t).map (·.isRow) = some true
  size : (P.info? t).map (·.size) = some n
theorem exec_load_row {P : Program} {t n : Nat} (H : RowOf P t n) {ρ : Operand → Value} {dst : Option Tmp} {x : Operand} {ty : TypeId} {pos : String} {after : Array Edge} {guard : Option (Nat × Bool)} {w : World} :
    (execOp ρ { dst, op := .load t x, type := ty, pos, after, guard }).run P w = ldr P t n (ρ x) w := by
  have hd : (execOp ρ { dst, op := .load t x, type := ty, pos, after, guard }).run P w = (do pure (Next.value (← Instr.loadAt t (ρ x))) : Sem Next).run P w := rfl
  rw [hd]
  unfold ldr
  split
  · rename_i b o hx
    split
    · rename_i cs hcs
      obtain ⟨d, hu, hr⟩ : ∃ d, P.underlying t = some d ∧ d.isRow = true := by
        have := H.und
        cases h : P.underlying t with
        | none => simp [h] at this
        | some d => simp [h] at this; exact ⟨d, rfl, this⟩
      have hl := rng_len hcs
      have := run_loadAt_mid (P := P) w b o t cs d (rng_at hcs) hu hr (by rw [H.size, hl])
      rw [hx]
      simp only [this, Sem.run_bind, Sem.run_pure, Result.andThen_ok]
    · rfl
  · rfl
@[go_sem] theorem ldr_ptr (P : Program) (t n b o : Nat) (w : World) : ldr P t n (.pointer (some ⟨b, o, none⟩)) w =
    match rng w b o n with
    | some cs => .ok (.value (.agg cs.toArray)) w
    | none => (do pure (Next.value (← Instr.loadAt t (.pointer (some ⟨b, o, none⟩)))) : Sem Next).run P w := rfl
end Go.Proofs.YtcambhbmobepjaaGreat

namespace Go.Proofs.YtcambhbmobepjaaGreat
set_option linter.unusedSimpArgs false
set_option linter.unusedVariables false
open Go.RowKit
set_option maxRecDepth 10000

/-! Readers. -/
/-- what lies on the blocks of z reads the same in w' -/
def Stay (z : Nat → Prop) (w : World) (z' : Nat → Prop) (w' : World) : Prop :=
  ∀ b, z b → b < w.heap.size → w'.heap[b]? = w.heap[b]? ∧ z' b
theorem Stay.trans {z z1 z2 : Nat → Prop} {w w1 w2 : World} (h : Stay z w z1 w1) (hs : w.heap.size ≤ w1.heap.size) (h2 : Stay z1 w1 z2 w2) : Stay z w z2 w2 :=
  fun b hb hl => ⟨(h2 b (h b hb hl).2 (Nat.lt_of_lt_of_le hl hs)).1.trans (h b hb hl).1, (h2 b (h b hb hl).2 (Nat.lt_of_lt_of_le hl hs)).2⟩
theorem stay_wider {z z' : Nat → Prop} {w : World} (h : ∀ b, z b → b < w.heap.size → z' b) : Stay z w z' w := fun b hb hl => ⟨rfl, h b hb hl⟩

structure Rdr (α : Type) where
  n : Nat
  R : (Nat → Prop) → World → List Value → α → Prop
  len : ∀ {z w cs a}, R z w cs a → cs.length = n
  one : ∀ {z w cs a}, R z w cs a → ∀ u ∈ cs, u.oneCell' = true
  stay : ∀ {z w z' w' cs a}, R z w cs a → Stay z w z' w' → R z' w' cs a

theorem rng_lt {w : World} {b o n : Nat} {cs : List Value} (h : rng w b o n = some cs) : b < w.heap.size := by
  unfold rng at h
  split at h
  · rename_i c t fr hb
    exact (Array.getElem?_eq_some_iff.1 hb).1
  · cases h
theorem rng_same {w w' : World} {b : Nat} (h : w'.heap[b]? = w.heap[b]?) (o n : Nat) : rng w' b o n = rng w b o n := by
  unfold rng; rw [h]

abbrev rInt (k : IntKind) : Rdr Int where
  n := 1
  R _ _ cs a := cs = [.int k a]
  len h := by rw [h]; rfl
  one h := by rw [h]; simp [Value.oneCell']
  stay h _ := h
abbrev rByte : Rdr UInt8 where
  n := 1
  R _ _ cs a := cs = [bv a]
  len h := by rw [h]; rfl
  one h := by rw [h]; simp [Value.oneCell']
  stay h _ := h
abbrev rBool : Rdr Bool where
  n := 1
  R _ _ cs a := cs = [.bool a]
  len h := by rw [h]; rfl
  one h := by rw [h]; simp [Value.oneCell']
  stay h _ := h
abbrev rStr : Rdr ByteArray where
  n := 1
  R _ _ cs a := cs = [.string a]
  len h := by rw [h]; rfl
  one h := by rw [h]; simp [Value.oneCell']
  stay h _ := h
abbrev rUnit : Rdr Unit where
  n := 0
  R _ _ cs _ := cs = []
  len h := by rw [h]; rfl
  one h := by rw [h]; simp
  stay h _ := h
abbrev rPair {α β : Type} (p : Rdr α) (q : Rdr β) : Rdr (α × β) where
  n := p.n + q.n
  R z w cs a := ∃ c d, cs = c ++ d ∧ p.R z w c a.1 ∧ q.R z w d a.2
  len := by rintro z w cs a ⟨c, d, rfl, h1, h2⟩; rw [List.length_append, p.len h1, q.len h2]
  one := by
    rintro z w cs a ⟨c, d, rfl, h1, h2⟩ u hu
    rcases List.mem_append.1 hu with h | h
    · exact p.one h1 u h
    · exact q.one h2 u h
  stay := by rintro z w z' w' cs a ⟨c, d, rfl, h1, h2⟩ h; exact ⟨c, d, rfl, p.stay h1 h, q.stay h2 h⟩
abbrev rIso {α β : Type} (p : Rdr β) (f : α → β) : Rdr α where
  n := p.n
  R z w cs a := p.R z w cs (f a)
  len h := p.len h
  one h := p.one h
  stay h hs := p.stay h hs

/-- v is a slice of l -/
def SlZ {α : Type} (r : Rdr α) (z : Nat → Prop) (w : World) (v : Value) (l : List α) : Prop :=
  ∃ ad cap, v = .slice ad l.length cap ∧ l.length ≤ cap ∧ cap ≤ maxLen ∧ (ad = none → cap = 0) ∧ (l ≠ [] → ∃ b o, ad = some ⟨b, o, none⟩ ∧ z b ∧ ∀ i x, l[i]? = some x → ∃ cs, rng w b (o + i * r.n) r.n = some cs ∧ r.R z w cs x)
theorem SlZ.stay {α : Type} {r : Rdr α} {z z' : Nat → Prop} {w w' : World} {v : Value} {l : List α} (h : SlZ r z w v l) (hs : Stay z w z' w') : SlZ r z' w' v l := by
  obtain ⟨ad, cap, rfl, h1, h2, h4, h3⟩ := h
  refine ⟨ad, cap, rfl, h1, h2, h4, fun hne => ?_⟩
  obtain ⟨b, o, rfl, hz, hr⟩ := h3 hne
  obtain ⟨cs0, h0, _⟩ := hr 0 _ (List.getElem?_eq_getElem (List.length_pos_iff.2 hne))
  have hb := hs b hz (rng_lt h0)
  refine ⟨b, o, rfl, hb.2, fun i x hx => ?_⟩
  obtain ⟨cs, g1, g2⟩ := hr i x hx
  exact ⟨cs, (rng_same hb.1 _ _).trans g1, r.stay g2 hs⟩
abbrev rSl {α : Type} (r : Rdr α) : Rdr (List α) where
  n := 1
  R z w cs l := ∃ v, cs = [v] ∧ SlZ r z w v l
  len := by rintro z w cs a ⟨v, rfl, _⟩; rfl
  one := by rintro z w cs a ⟨v, rfl, _, _, rfl, _⟩; simp [Value.oneCell']
  stay := by rintro z w z' w' cs a ⟨v, rfl, h⟩ hs; exact ⟨v, rfl, h.stay hs⟩

theorem SlZ.nil {α : Type} (r : Rdr α) (z : Nat → Prop) (w : World) : SlZ r z w (.slice none 0 0) [] := ⟨none, 0, rfl, Nat.le_refl _, Nat.zero_le _, fun _ => rfl, fun h => absurd rfl h⟩
theorem SlZ.shape {α : Type} {r : Rdr α} {z : Nat → Prop} {w : World} {v : Value} {l : List α} (h : SlZ r z w v l) : ∃ ad cap, v = .slice ad l.length cap ∧ l.length ≤ cap ∧ cap ≤ maxLen := by
  obtain ⟨ad, cap, h0, h1, h2, _⟩ := h
  exact ⟨ad, cap, h0, h1, h2⟩
theorem SlZ.len_le {α : Type} {r : Rdr α} {z : Nat → Prop} {w : World} {v : Value} {l : List α} (h : SlZ r z w v l) : l.length ≤ 9223372036854775807 := by
  obtain ⟨_, _, _, h1, h2⟩ := h.shape
  unfold maxLen at h2; omega
/-- an element's cells -/
theorem SlZ.get {α : Type} {r : Rdr α} {z : Nat → Prop} {w : World} {ad : Option Addr} {n cap : Nat} {l : List α} (h : SlZ r z w (.slice ad n cap) l) {i : Nat} {x : α} (hx : l[i]? = some x) : ∃ b o cs, ad = some ⟨b, o, none⟩ ∧ z b ∧ rng w b (o + i * r.n) r.n = some cs ∧ r.R z w cs x := by
  obtain ⟨ad', cap', h0, h1, h2, -, h3⟩ := h
  injection h0 with h0
  subst h0
  obtain ⟨b, o, rfl, hz, hr⟩ := h3 (by rintro rfl; simp at hx)
  obtain ⟨cs, g1, g2⟩ := hr i x hx
  exact ⟨b, o, cs, rfl, hz, g1, g2⟩

/-- what stayed, but in the blocks of S -/
structure Kpt (w w' : World) (S : Nat → Prop) : Prop where
  os : w'.os = w.os
  tape : w'.tape = w.tape
  output : w'.output = w.output
  size : w.heap.size ≤ w'.heap.size
  block : ∀ k, k < w.heap.size → ¬ S k → w'.heap[k]? = w.heap[k]?
theorem Kpt.refl (w : World) (S : Nat → Prop) : Kpt w w S := ⟨rfl, rfl, rfl, Nat.le_refl _, fun _ _ _ => rfl⟩
theorem Kpt.of_below {w w' : World} (h : Below w.heap.size w w') (S : Nat → Prop) : Kpt w w' S := ⟨h.os, h.tape, h.output, h.size, fun k hk _ => h.block k hk⟩
theorem Kpt.below {w w' : World} {S : Nat → Prop} (h : Kpt w w' S) (hS : ∀ k, S k → w.heap.size ≤ k) : Below w.heap.size w w' := ⟨h.os, h.tape, h.output, h.size, fun k hk => h.block k hk (fun e => by have := hS k e; omega)⟩

/-! What a call owns. -/
structure As where
  holds : World → Prop
  foot : Nat → Prop
  lt : ∀ {w}, holds w → ∀ b, foot b → b < w.heap.size
  kept : ∀ {w w'} {S : Nat → Prop}, holds w → Kpt w w' S → (∀ b, foot b → ¬ S b) → holds w'
  fact : World → Prop
  tell : ∀ {w}, holds w → fact w

/-- the cells of block b are cs -/
def Blk (w : World) (B : Nat) (cs : List Value) : Prop := (∀ k, w.cell? ⟨B, k, none⟩ = cs[k]?) ∧ (∀ k, w.frozen? ⟨B, k, none⟩ = false) ∧ ∀ o n, rng w B o n = if o + n ≤ cs.length then some ((cs.drop o).take n) else none
/-- a block of its own: a variable -/
def va (B : Nat) (cs : List Value) (t : TypeId) : As where
  holds w := w.heap[B]? = some (.cells cs.toArray t (0, 0))
  foot b := b = B
  lt := by rintro w h b rfl; exact (Array.getElem?_eq_some_iff.1 h).1
  kept := fun h hk hn => (hk.block B (Array.getElem?_eq_some_iff.1 h).1 (hn _ rfl)).trans h
  fact w := Blk w B cs
  tell := fun {w} h => ⟨fun k => by rw [cell_of_row w B k _ _ _ h]; simp, fun k => frozen_of_row w B k _ _ h, fun o n => by unfold rng; rw [h]; simp⟩
/-- a slice of its own: its cells -/
def vec (e size : Nat) (v : Value) (n : Nat) (xs : List Value) : As where
  holds w := w.ownsRow 0 e size v n xs
  foot b := v.ownBlock = some b
  lt := fun h b hb => (h.lt b hb).2
  kept := by
    intro w w' S h hk hn
    refine ⟨h.1, ?_⟩
    rcases h.2 with h2 | ⟨g, cap, cur, rfl, hb, hg, r⟩
    · exact .inl h2
    · exact .inr ⟨g, cap, cur, rfl, hb, (hk.block g (Array.getElem?_eq_some_iff.1 hg).1 (hn g rfl)).trans hg, r⟩
  fact _ := True
  tell := fun _ => trivial
/-- something else: an object at block T -/
def obj (T : Nat) (p : World → (Nat → Prop) → Prop) (A : Nat → Prop) (hl : ∀ {w}, p w A → ∀ b, A b → b < w.heap.size) (hk : ∀ {w w'} {S : Nat → Prop}, p w A → Kpt w w' S → (∀ b, A b → ¬ S b) → p w' A) : As where
  holds w := p w A
  foot := A
  lt := hl
  kept := hk
  fact _ := True
  tell := fun _ => trivial

/-- what may be read: what the caller let be read (z), and what is new, but what is owned -/
def zone (w0 : World) (z : Nat → Prop) (O : List As) (w : World) : Nat → Prop := fun b => (b < w0.heap.size → z b) ∧ b < w.heap.size ∧ ∀ o ∈ O, ¬ o.foot b
/-- a reading -/
structure Rd where
  p : (Nat → Prop) → World → Prop
  stay : ∀ {z w z' w'}, p z w → Stay z w z' w' → p z' w'
  fact : World → Prop
  tell : ∀ {z w}, p z w → fact w
def rd {α : Type} (r : Rdr α) (cs : List Value) (a : α) : Rd := ⟨fun z w => r.R z w cs a, fun h hs => r.stay h hs, fun _ => True, fun _ => trivial⟩
/-- a slice that is read -/
def rdS {α : Type} (r : Rdr α) (v : Value) (l : List α) : Rd := ⟨fun z w => SlZ r z w v l, fun h hs => h.stay hs, fun _ => True, fun _ => trivial⟩
def CellsAt (w : World) (b o : Nat) : Nat → List Value → Prop
  | _, [] => True
  | i, v :: cs => w.cell? ⟨b, o + i, none⟩ = some v ∧ CellsAt w b o (i + 1) cs
theorem cellsAt_of {w : World} {b o : Nat} : ∀ (cs : List Value) (i : Nat), w.rangeAt b (o + i) cs → CellsAt w b o i cs
  | [], _, _ => trivial
  | v :: cs, i, h => ⟨h 0 v rfl, cellsAt_of cs (i + 1) fun j u hu => by have := h (j + 1) u (by simpa using hu); rwa [show o + (i + 1) + j = o + i + (j + 1) by omega]⟩
/-- cells that are read -/
def rdE (b o : Nat) (cs : List Value) : Rd where
  p z w := z b ∧ rng w b o cs.length = some cs
  stay h hs := ⟨(hs b h.1 (rng_lt h.2)).2, (rng_same (hs b h.1 (rng_lt h.2)).1 _ _).trans h.2⟩
  fact w := rng w b o cs.length = some cs ∧ CellsAt w b o 0 cs
  tell h := ⟨h.2, cellsAt_of _ 0 (rng_at h.2)⟩

/-- the state of a walk that began in w0: it may write the blocks of G and what is new; it owns O, and reads T -/
structure St (w0 : World) (G z : Nat → Prop) (O : List As) (T : List Rd) (w : World) : Prop where
  base : Kpt w0 w G
  own : ∀ o ∈ O, o.holds w
  new : ∀ o ∈ O, ∀ b, o.foot b → w0.heap.size ≤ b ∨ G b
  apart : O.Pairwise (fun a b => ∀ k, a.foot k → ¬ b.foot k)
  rds : ∀ r ∈ T, r.p (zone w0 z O w) w

section
variable {w0 w : World} {G z : Nat → Prop} {O : List As} {T : List Rd}

theorem St.start (w : World) (z : Nat → Prop) (T : List Rd) (h : ∀ r ∈ T, r.p z w) : St w (fun _ => False) z [] T w :=
  ⟨Kpt.refl _ _, by simp, by simp, .nil, fun r hr => r.stay (h r hr) (stay_wider fun b hb hl => ⟨fun _ => hb, hl, by simp⟩)⟩
theorem St.begin (w : World) (G z : Nat → Prop) (O : List As) (T : List Rd) (ho : ∀ o ∈ O, o.holds w) (hg : ∀ o ∈ O, ∀ b, o.foot b → G b ∧ ¬ z b) (ha : O.Pairwise (fun a b => ∀ k, a.foot k → ¬ b.foot k)) (h : ∀ r ∈ T, r.p z w) : St w G z O T w :=
  ⟨Kpt.refl _ _, ho, fun o ho b hb => .inr (hg o ho b hb).1, ha, fun r hr => r.stay (h r hr) (stay_wider fun b hb hl => ⟨fun _ => hb, hl, fun o ho hf => (hg o ho b hf).2 hb⟩)⟩
theorem St.rd (H : St w0 G z O T w) (i : Nat) {r : Rd} (h : T[i]? = some r) : r.p (zone w0 z O w) w := H.rds r (List.mem_of_getElem? h)
theorem St.has (H : St w0 G z O T w) (i : Nat) {o : As} (h : O[i]? = some o) : o.holds w := H.own o (List.mem_of_getElem? h)
theorem St.lt (H : St w0 G z O T w) {o : As} (h : o ∈ O) {b : Nat} (hb : o.foot b) : b < w.heap.size := o.lt (H.own o h) b hb

/-- something new came, nothing else changed -/
theorem St.grow (H : St w0 G z O T w) {w' : World} (N : List As) (T' : List Rd) (hb : Below w.heap.size w w') (hN : ∀ o ∈ N, o.holds w') (hn : ∀ o ∈ N, ∀ b, o.foot b → w.heap.size ≤ b) (ha : N.Pairwise (fun a b => ∀ k, a.foot k → ¬ b.foot k))
    (hT : ∀ r ∈ T', r.p (zone w0 z (N ++ O) w') w') : St w0 G z (N ++ O) (T' ++ T) w' := by
  refine ⟨⟨hb.os.trans H.base.os, hb.tape.trans H.base.tape, hb.output.trans H.base.output, Nat.le_trans H.base.size hb.size, fun k hk hG => (hb.block k (Nat.lt_of_lt_of_le hk H.base.size)).trans (H.base.block k hk hG)⟩, ?_, ?_, ?_, ?_⟩
  · intro o ho
    rcases List.mem_append.1 ho with h | h
    · exact hN o h
    · exact o.kept (H.own o h) (Kpt.of_below hb (fun _ => False)) fun _ _ h => h
  · intro o ho b hf
    rcases List.mem_append.1 ho with h | h
    · exact .inl (Nat.le_trans H.base.size (hn o h b hf))
    · exact H.new o h b hf
  · refine List.pairwise_append.2 ⟨ha, H.apart, fun a ha b hb' k h1 h2 => ?_⟩
    have := hn a ha k h1
    have := H.lt hb' h2
    omega
  · intro r hr
    rcases List.mem_append.1 hr with h | h
    · exact hT r h
    · refine r.stay (H.rds r h) fun b hz hl => ⟨hb.block b hl, hz.1, Nat.lt_of_lt_of_le hl hb.size, fun o ho hf => ?_⟩
      rcases List.mem_append.1 ho with h | h
      · have := hn o h b hf; omega
      · exact hz.2.2 o h hf
theorem St.alloc (H : St w0 G z O T w) (cs : List Value) (t : TypeId) : St w0 G z (va w.heap.size cs t :: O) T (w.alloc (.cells cs.toArray t)) := by
  have := H.grow [va w.heap.size cs t] [] ((Below.refl _ _).alloc (Nat.le_refl _) (.cells cs.toArray t)) (by simp only [List.mem_singleton, forall_eq]; exact heap_alloc_new w _) (by simp only [List.mem_singleton, forall_eq]; rintro b rfl; exact Nat.le_refl _) (List.pairwise_singleton _ _) (by simp)
  simpa using this
theorem St.same (H : St w0 G z O T w) {w' : World} (hb : Below w.heap.size w w') : St w0 G z O T w' := by
  have := H.grow [] [] hb (by simp) (by simp) .nil (by simp)
  simpa using this
/-- where a call's results lie that reads z -/
def Fresh (z : Nat → Prop) (w w' : World) : Nat → Prop := fun b => z b ∨ (w.heap.size ≤ b ∧ b < w'.heap.size)
theorem fresh_zone (H : St w0 G z O T w) {w' : World} (hb : Below w.heap.size w w') : Stay (Fresh (zone w0 z O w) w w') w' (zone w0 z O w') w' := fun b hz _ => by
  refine ⟨rfl, ?_⟩
  rcases hz with ⟨h0, h1, h2⟩ | ⟨h1, h2⟩
  · exact ⟨h0, Nat.lt_of_lt_of_le h1 hb.size, h2⟩
  · exact ⟨fun h => by have := H.base.size; omega, h2, fun o ho hf => by have := H.lt ho hf; omega⟩
/-- a call that answers something to read -/
theorem St.call (H : St w0 G z O T w) {w' : World} (hb : Below w.heap.size w w') (r : Rd) (hr : r.p (Fresh (zone w0 z O w) w w') w') : St w0 G z O (r :: T) w' := by
  have := H.grow [] [r] hb (by simp) (by simp) .nil (by simp only [List.mem_singleton, forall_eq, List.nil_append]; exact r.stay hr (fresh_zone H hb))
  simpa using this
/-- a call that answers something of one's own -/
theorem St.gets (H : St w0 G z O T w) {w' : World} (hb : Below w.heap.size w w') (o : As) (ho : o.holds w') (hn : ∀ b, o.foot b → w.heap.size ≤ b) : St w0 G z (o :: O) T w' := by
  have := H.grow [o] [] hb (by simpa using ho) (by simpa using hn) (List.pairwise_singleton _ _) (by simp)
  simpa using this
theorem St.draw (H : St w0 G z O T w) (n : Nat) : St w0 G z O T (w.drewN n) := H.same ⟨rfl, rfl, rfl, Nat.le_refl _, fun _ _ => rfl⟩

/-- one of the owned changed -/
theorem St.upd (H : St w0 G z O T w) (i : Nat) {o : As} (hi : O[i]? = some o) (o' : As) {w' : World} (hk : Kpt w w' o.foot) (hh : o'.holds w') (hf : ∀ b, o'.foot b → o.foot b ∨ w.heap.size ≤ b) (T' : List Rd) (hT : ∀ r ∈ T', r.p (zone w0 z (O.set i o') w') w') :
    St w0 G z (O.set i o') (T' ++ T) w' := by
  have hil : i < O.length := (List.getElem?_eq_some_iff.1 hi).1
  have hig : O[i] = o := (List.getElem?_eq_some_iff.1 hi).2
  have hoO := List.mem_of_getElem? hi
  have apart : ∀ j (hj : j < O.length), j ≠ i → ∀ k, O[j].foot k → ¬ o.foot k := fun j hj hne k h1 h2 => by
    rcases Nat.lt_or_gt_of_ne hne with h | h
    · exact List.pairwise_iff_getElem.1 H.apart j i hj hil h k h1 (hig ▸ h2)
    · exact List.pairwise_iff_getElem.1 H.apart i j hil hj h k (hig ▸ h2) h1
  have old : ∀ p ∈ O.set i o', p = o' ∨ ∃ j, ∃ hj : j < O.length, j ≠ i ∧ p = O[j] := fun p hp => by
    obtain ⟨j, hj, rfl⟩ := List.mem_iff_getElem.1 hp
    rw [List.length_set] at hj
    by_cases e : i = j
    · subst e; left; simp
    · right; exact ⟨j, hj, fun h => e h.symm, by rw [List.getElem_set_ne e]⟩
  refine ⟨⟨hk.os.trans H.base.os, hk.tape.trans H.base.tape, hk.output.trans H.base.output, Nat.le_trans H.base.size hk.size, fun k hl hG => (hk.block k (Nat.lt_of_lt_of_le hl H.base.size) (fun e => ?_)).trans (H.base.block k hl hG)⟩, ?_, ?_, ?_, ?_⟩
  · rcases H.new o hoO k e with h | h
    · omega
    · exact hG h
  · intro p hp
    rcases old p hp with rfl | ⟨j, hj, hne, rfl⟩
    · exact hh
    · exact (O[j]).kept (H.own _ (List.getElem_mem hj)) hk (apart j hj hne)
  · intro p hp b hb
    rcases old p hp with rfl | ⟨j, hj, hne, rfl⟩
    · rcases hf b hb with h | h
      · exact H.new o hoO b h
      · exact .inl (Nat.le_trans H.base.size h)
    · exact H.new _ (List.getElem_mem hj) b hb
  · refine List.pairwise_iff_getElem.2 fun a b ha hb hab k h1 h2 => ?_
    rw [List.length_set] at ha hb
    rw [List.getElem_set] at h1 h2
    by_cases e1 : i = a
    · subst e1
      rw [if_pos rfl] at h1
      rw [if_neg (by omega)] at h2
      rcases hf k h1 with h | h
      · exact apart b hb (by omega) k h2 h
      · have := H.lt (List.getElem_mem hb) h2; omega
    · rw [if_neg e1] at h1
      by_cases e2 : i = b
      · subst e2
        rw [if_pos rfl] at h2
        rcases hf k h2 with h | h
        · exact apart a ha (by omega) k h1 h
        · have := H.lt (List.getElem_mem ha) h1; omega
      · rw [if_neg e2] at h2
        exact List.pairwise_iff_getElem.1 H.apart a b ha hb hab k h1 h2
  · intro r hr
    rcases List.mem_append.1 hr with h | h
    · exact hT r h
    · refine r.stay (H.rds r h) fun b hz hl => ⟨hk.block b hl (hz.2.2 o hoO), hz.1, Nat.lt_of_lt_of_le hl hk.size, fun p hp hpf => ?_⟩
      rcases old p hp with rfl | ⟨j, hj, hne, rfl⟩
      · rcases hf b hpf with h | h
        · exact hz.2.2 o hoO h
        · omega
      · exact hz.2.2 _ (List.getElem_mem hj) hpf
/-- what is not needed any more -/
theorem St.sub (H : St w0 G z O T w) {O' : List As} {T' : List Rd} (ho : O'.Sublist O) (ht : ∀ r ∈ T', r ∈ T) : St w0 G z O' T' w :=
  ⟨H.base, fun o h => H.own o (ho.subset h), fun o h => H.new o (ho.subset h), H.apart.sublist ho, fun r h => r.stay (H.rds r (ht r h)) (stay_wider fun b hz _ => ⟨hz.1, hz.2.1, fun o ho' => hz.2.2 o (ho.subset ho')⟩)⟩
/-- one of the owned, brought to the front -/
theorem St.front (H : St w0 G z O T w) (i : Nat) {o : As} (hi : O[i]? = some o) : St w0 G z (o :: O.eraseIdx i) T w := by
  have hil : i < O.length := (List.getElem?_eq_some_iff.1 hi).1
  have hig : O[i] = o := (List.getElem?_eq_some_iff.1 hi).2
  have hm : ∀ p, p ∈ o :: O.eraseIdx i → p ∈ O := fun p hp => by
    rcases List.mem_cons.1 hp with rfl | hp
    · exact List.mem_of_getElem? hi
    · exact (List.eraseIdx_sublist O i).subset hp
  refine ⟨H.base, fun p hp => H.own p (hm p hp), fun p hp => H.new p (hm p hp), List.pairwise_cons.2 ⟨fun p hp k h1 h2 => ?_, H.apart.sublist (List.eraseIdx_sublist O i)⟩, fun r hr => r.stay (H.rds r hr) (stay_wider fun b hz _ => ⟨hz.1, hz.2.1, fun p hp => hz.2.2 p (hm p hp)⟩)⟩
  obtain ⟨j, hj, hne, hjp⟩ : ∃ j, ∃ hj : j < O.length, j ≠ i ∧ O[j] = p := by
    obtain ⟨q, hq, rfl⟩ := List.mem_iff_getElem.1 hp
    rw [List.length_eraseIdx_of_lt hil] at hq
    rw [List.getElem_eraseIdx]
    split
    · exact ⟨q, by omega, by omega, rfl⟩
    · exact ⟨q + 1, by omega, by omega, rfl⟩
  subst hjp
  rcases Nat.lt_or_gt_of_ne hne with h | h
  · exact List.pairwise_iff_getElem.1 H.apart j i hj hil h k h2 (hig ▸ h1)
  · exact List.pairwise_iff_getElem.1 H.apart i j hil hj h k (hig ▸ h1) h2
/-- another reading, out of those that there are -/
theorem St.also (H : St w0 G z O T w) (r : Rd) (h : r.p (zone w0 z O w) w) : St w0 G z O (r :: T) w :=
  ⟨H.base, H.own, H.new, H.apart, fun q hq => by rcases List.mem_cons.1 hq with rfl | hq; exact h; exact H.rds q hq⟩
/-- what is read now was owned -/
theorem St.freeze (H : St w0 G z O T w) (i : Nat) (r : Rd) (h : r.p (zone w0 z (O.eraseIdx i) w) w) : St w0 G z (O.eraseIdx i) (r :: T) w :=
  (H.sub (List.eraseIdx_sublist O i) (fun _ h => h)).also r h
/-- the end -/
theorem St.below (H : St w0 G z O T w) (hG : ∀ k, G k → w0.heap.size ≤ k) : Below w0.heap.size w0 w := H.base.below hG
theorem St.below' (H : St w0 (fun _ => False) z O T w) : Below w0.heap.size w0 w := H.base.below (fun _ h => h.elim)
def Facts : List As → World → Prop
  | [], _ => True
  | o :: l, w => o.fact w ∧ Facts l w
theorem facts_of : ∀ (l : List As) (w : World), (∀ o ∈ l, o.holds w) → Facts l w
  | [], _, _ => trivial
  | o :: l, w, h => ⟨o.tell (h o List.mem_cons_self), facts_of l w fun p hp => h p (List.mem_cons_of_mem _ hp)⟩
def FactsT : List Rd → World → Prop
  | [], _ => True
  | o :: l, w => o.fact w ∧ FactsT l w
theorem factsT_of {z : Nat → Prop} : ∀ (l : List Rd) (w : World), (∀ o ∈ l, o.p z w) → FactsT l w
  | [], _, _ => trivial
  | o :: l, w, h => ⟨o.tell (h o List.mem_cons_self), factsT_of l w fun p hp => h p (List.mem_cons_of_mem _ hp)⟩
theorem St.facts (H : St w0 G z O T w) : Facts O w ∧ FactsT T w := ⟨facts_of O w H.own, factsT_of T w H.rds⟩
theorem facts_nil {w : World} : Facts [] w = True := rfl
theorem facts_va {w : World} {B : Nat} {cs : List Value} {t : TypeId} {l : List As} : Facts (va B cs t :: l) w = ((∀ k, w.cell? ⟨B, k, none⟩ = cs[k]?) ∧ (∀ k, w.frozen? ⟨B, k, none⟩ = false) ∧ (∀ o n, rng w B o n = if o + n ≤ cs.length then some ((cs.drop o).take n) else none) ∧ Facts l w) := by
  show (Blk w B cs ∧ Facts l w) = _
  unfold Blk
  simp only [and_assoc]
theorem facts_vec {w : World} {e size : Nat} {v : Value} {n : Nat} {xs : List Value} {l : List As} : Facts (vec e size v n xs :: l) w = Facts l w := by show (True ∧ _) = _; simp
theorem facts_obj {w : World} {B : Nat} {p : World → (Nat → Prop) → Prop} {A : Nat → Prop} {hl : ∀ {w}, p w A → ∀ b, A b → b < w.heap.size} {hk : ∀ {w w'} {S : Nat → Prop}, p w A → Kpt w w' S → (∀ b, A b → ¬ S b) → p w' A} {l : List As} : Facts (obj B p A hl hk :: l) w = Facts l w := by show (True ∧ _) = _; simp
theorem factsT_nil {w : World} : FactsT [] w = True := rfl
theorem factsT_rd {α : Type} {r : Rdr α} {cs : List Value} {a : α} {w : World} {l : List Rd} : FactsT (rd r cs a :: l) w = FactsT l w := by show (True ∧ _) = _; simp
theorem factsT_rdS {α : Type} {r : Rdr α} {v : Value} {a : List α} {w : World} {l : List Rd} : FactsT (rdS r v a :: l) w = FactsT l w := by show (True ∧ _) = _; simp
theorem factsT_rdE {b o : Nat} {cs : List Value} {w : World} {l : List Rd} : FactsT (rdE b o cs :: l) w = (rng w b o cs.length = some cs ∧ CellsAt w b o 0 cs ∧ FactsT l w) := by
  show ((_ ∧ _) ∧ _) = _
  simp only [and_assoc]
/-- the readings at the end, as a caller has them -/
theorem zone_fresh : Stay (zone w0 z O w) w (Fresh z w0 w) w := fun b hb _ => by
  refine ⟨rfl, ?_⟩
  by_cases h : b < w0.heap.size
  · exact .inl (hb.1 h)
  · exact .inr ⟨by omega, hb.2.1⟩
theorem St.end_rd (H : St w0 G z O T w) (i : Nat) {r : Rd} (h : T[i]? = some r) : r.p (Fresh z w0 w) w := r.stay (H.rd i h) zone_fresh
end
end Go.Proofs.YtcambhbmobepjaaGreat

namespace Go.Proofs.YtcambhbmobepjaaGreat
set_option linter.unusedSimpArgs false
set_option linter.unusedVariables false
open Go.RowKit
set_option maxRecDepth 10000

def putAt (cs : List Value) (o : Nat) (new : List Value) : List Value := cs.take o ++ new ++ cs.drop (o + new.length)
theorem putAt_len {cs : List Value} {o : Nat} {new : List Value} (h : o + new.length ≤ cs.length) : (putAt cs o new).length = cs.length := by
  unfold putAt; simp only [List.length_append, List.length_take, List.length_drop]; omega

section
variable {P : Program} {ops : Array Oper} {Q : Exit → Act → World → Prop} {w0 w : World} {G z : Nat → Prop} {O : List As} {T : List Rd} {l rest : List Oper} {o : Oper} {a : Act}

theorem wl_absorb {cs : Array Value} {t : TypeId} (H : St w0 G z O T w) (h : ∀ W, St w0 G z (va w.heap.size cs.toList t :: O) T W → w.heap.size < W.heap.size → wpList P ops Q l a W) : wpList P ops Q l a (w.alloc (.cells cs t)) :=
  h _ (H.alloc cs.toList t) (by simp)
theorem cw_absorb {cs : Array Value} {t : TypeId} {c : Code} (H : St w0 G z O T w) (h : ∀ W, St w0 G z (va w.heap.size cs.toList t :: O) T W → w.heap.size < W.heap.size → c.wp P Q a W) : c.wp P Q a (w.alloc (.cells cs t)) :=
  h _ (H.alloc cs.toList t) (by simp)
theorem wl_drew (H : St w0 G z O T w) (h : ∀ W, St w0 G z O T W → w.heap.size ≤ W.heap.size → wpList P ops Q l a W) : wpList P ops Q l a w.drew := h _ (H.draw 1) (Nat.le_refl _)

theorem wl_drewN {n : Nat} (H : St w0 G z O T w) (h : ∀ W, St w0 G z O T W → w.heap.size ≤ W.heap.size → wpList P ops Q l a W) : wpList P ops Q l a (w.drewN n) := h _ (H.draw n) (Nat.le_refl _)
theorem cw_drewN {n : Nat} {c : Code} (H : St w0 G z O T w) (h : ∀ W, St w0 G z O T W → w.heap.size ≤ W.heap.size → c.wp P Q a W) : c.wp P Q a (w.drewN n) := h _ (H.draw n) (Nat.le_refl _)

theorem run_storeCells {t : TypeId} {B : Nat} : ∀ (new : List Value) (cs : List Value) (off i : Nat) (w : World), w.heap[B]? = some (.cells cs.toArray t (0, 0)) → off + i + new.length ≤ cs.length → (∀ u ∈ new, u.oneCell' = true) →
    ∃ w', (storeCells ⟨B, off, none⟩ new i).run P w = .ok () w' ∧ w'.heap[B]? = some (.cells (putAt cs (off + i) new).toArray t (0, 0)) ∧ Kpt w w' (fun b => b = B)
  | [], cs, off, i, w, hb, _, _ => ⟨w, rfl, by rw [hb]; simp [putAt], Kpt.refl _ _⟩
  | v :: new, cs, off, i, w, hb, hle, h1 => by
    have hv := h1 v List.mem_cons_self
    simp only [List.length_cons] at hle
    have hadd : (⟨B, off, none⟩ : Addr).add i = ⟨B, off + i, none⟩ := by unfold Addr.add; split <;> simp_all
    have hc : w.cell? ⟨B, off + i, none⟩ = some cs[off + i] := by rw [cell_of_row w B _ _ _ _ hb]; simp
    have hset : (w.setCell ⟨B, off + i, none⟩ v).heap[B]? = some (.cells (cs.set (off + i) v).toArray t (0, 0)) := by
      simp [World.setCell, Array.getElem?_modify, hb]
    obtain ⟨w', h2, h3, h4⟩ := run_storeCells new (cs.set (off + i) v) off (i + 1) (w.setCell ⟨B, off + i, none⟩ v) hset (by simp; omega) (fun u hu => h1 u (List.mem_cons_of_mem _ hu))
    refine ⟨w', ?_, ?_, ?_⟩
    · have hst : (store ((⟨B, off, none⟩ : Addr).add i) v).run P w = .ok () (w.setCell ⟨B, off + i, none⟩ v) := by
        rw [hadd]
        unfold store
        cases v <;> simp [Value.oneCell'] at hv <;> simp [Sem.run, hc, frozen_of_row w B _ _ _ hb]
      unfold storeCells
      simp only [Sem.run_bind, hst, Result.andThen_ok, h2]
    · rw [h3]
      congr 3
      unfold putAt
      rw [show off + (i + 1) = off + i + 1 by omega, List.take_add_one, List.take_set_of_le (by omega), List.getElem?_set_self (by omega), List.drop_set_of_lt (by omega)]
      simp only [List.length_cons, Option.toList_some, List.append_assoc, List.cons_append, List.nil_append]
      rw [show off + i + 1 + new.length = off + i + (new.length + 1) by omega]
    · refine ⟨h4.os.trans rfl, h4.tape.trans rfl, h4.output.trans rfl, Nat.le_trans (by simp [World.setCell]) h4.size, fun k hk hn => (h4.block k (by simpa [World.setCell] using hk) hn).trans ?_⟩
      exact Below.heap_setCell w _ v k hn
theorem St.put (H : St w0 G z O T w) (i : Nat) {B : Nat} {cs : List Value} {t : TypeId} (hO : O[i]? = some (va B cs t)) (off : Nat) (new : List Value) (hle : off + new.length ≤ cs.length) (h1 : ∀ u ∈ new, u.oneCell' = true) :
    ∃ W, (storeCells ⟨B, off, none⟩ new).run P w = .ok () W ∧ St w0 G z (O.set i (va B (putAt cs off new) t)) T W ∧ w.heap.size ≤ W.heap.size := by
  have hb : w.heap[B]? = some (.cells cs.toArray t (0, 0)) := H.has i hO
  obtain ⟨w', h2, h3, h4⟩ := run_storeCells (P := P) new cs off 0 w hb (by omega) h1
  refine ⟨w', h2, ?_, h4.size⟩
  have := H.upd i hO (va B (putAt cs off new) t) (w' := w') h4 h3 (fun b hb => .inl hb) [] (by simp)
  simpa using this
theorem exec_store_at {ev : Operand → Value} {ty : TypeId} {x y : Operand} {B off : Nat} {new : List Value} (ho : o.op = .store ty x y) (hx : ev x = .pointer (some ⟨B, off, none⟩)) (hn : (ev y).cells.toList = new) (hsz : (P.info? ty).map (·.size) = some new.length)
    {W : World} (h : (storeCells ⟨B, off, none⟩ new).run P w = .ok () W) : (execOp ev o).run P w = .ok .skip W := by
  obtain ⟨i, hi1, hi2⟩ : ∃ i, P.info? ty = some i ∧ i.size = new.length := by
    cases h : P.info? ty with
    | none => simp [h] at hsz
    | some i => simp [h] at hsz; exact ⟨i, rfl, hsz⟩
  have hs : (ev y).cells.size = new.length := by rw [← hn]; simp
  unfold execOp
  simp [ho, hx, Instr.storeAt, Instr.sureAddr, storeVar, sizeOf, typeInfo, hi1, hi2, hs, hn, h]
/-- a store into a variable -/
theorem wl_store (H : St w0 G z O T w) (i : Nat) {B : Nat} {cs : List Value} {t : TypeId} (hO : O[i]? = some (va B cs t)) {ty : TypeId} {x y : Operand} (ho : o.op = .store ty x y) {off : Nat} (hx : a.eval x = .pointer (some ⟨B, off, none⟩)) (hw : Region.wanted o (yielded ops a.tmps) = true)
    {new : List Value} (hn : (a.eval y).cells.toList = new) (hsz : (P.info? ty).map (·.size) = some new.length) (hle : off + new.length ≤ cs.length) (h1 : ∀ u ∈ new, u.oneCell' = true)
    (h : ∀ W, St w0 G z (O.set i (va B (putAt cs off new) t)) T W → w.heap.size ≤ W.heap.size → wpList P ops Q rest (a.put o.dst undef) W) : wpList P ops Q (o :: rest) a w := by
  obtain ⟨W, h2, h3, h4⟩ := H.put (P := P) i hO off new hle h1
  refine BigFrame.wpList_want hw fun K hK => ?_
  unfold Oper.wp
  rw [exec_store_at ho hx hn hsz h2, Oper.upon_skip]
  exact hK _ _ (h W h3 h4)

/-- an append to what is owned -/
theorem run_append_vec {t e size bytes : Nat} {zv : Value} (hE : ElemOf P t e size bytes zv) {ty : TypeId} {v : Value} {n : Nat} {xs : List Value} (hown : w.ownsRow 0 e size v n xs) {src : Value} {m : Nat} {news : List Value} (hsrc : SrcOf w size src m news)
    (hbytes : (n + m) * bytes ≤ 140737488355328) :
    ∃ v' w', (Builtin.append_ #[t, t] ty #[v, src]).run P w = .ok v' w' ∧ w'.ownsRow 0 e size v' (n + m) (xs ++ news) ∧ w.grownBy w' v.ownBlock ∧ (v'.ownBlock = v.ownBlock ∨ v'.ownBlock = some w.heap.size) := by
  obtain ⟨ht, ⟨i, hi, hz, hsize, hby⟩, hzs, hpos, hone⟩ := hE
  have h63 : n + m ≤ maxLen := by
    have := Nat.le_trans (Nat.le_mul_of_pos_right (n + m) hone) hbytes
    unfold maxLen; omega
  rcases hsrc with ⟨rfl, rfl, rfl⟩ | ⟨ad, c, rfl, hl, hnews, h1⟩
  · exact ⟨v, w, run_append_owned_none (P := P) w 0 t ty e i size ht hi v n xs hown, by simpa using hown, ⟨rfl, rfl, rfl, Nat.le_refl _, fun _ _ _ => rfl⟩, .inl rfl⟩
  · obtain ⟨v', w', h2, h3, h4, _, h5⟩ := run_append_own_at (P := P) (w := w) 0 t ty e i zv size bytes ht hi hz hsize hby hzs hpos v n xs hown ad m c news hl hnews h1 h63 hbytes (Nat.zero_le _)
    exact ⟨v', w', h2, h3, h4, h5⟩
theorem St.app (H : St w0 G z O T w) (i : Nat) {t e size bytes : Nat} {zv : Value} (hE : ElemOf P t e size bytes zv) {ty : TypeId} {v : Value} {n : Nat} {xs : List Value} (hO : O[i]? = some (vec e size v n xs)) {src : Value} {m : Nat} {news : List Value} (hsrc : SrcOf w size src m news)
    (hbytes : (n + m) * bytes ≤ 140737488355328) :
    ∃ v' W, (Builtin.append_ #[t, t] ty #[v, src]).run P w = .ok v' W ∧ St w0 G z (O.set i (vec e size v' (n + m) (xs ++ news))) T W ∧ w.heap.size ≤ W.heap.size := by
  obtain ⟨v', W, h1, h2, h3, h4⟩ := run_append_vec (ty := ty) hE (H.has i hO) hsrc hbytes
  refine ⟨v', W, h1, ?_, h3.size⟩
  have := H.upd i hO (vec e size v' (n + m) (xs ++ news)) (w' := W) ⟨h3.os, h3.tape, h3.output, h3.size, fun k hk hn => h3.block k hk (fun e => hn e.symm)⟩ h2 (fun b hb => ?_) [] (by simp)
  · simpa using this
  · rcases h4 with h | h
    · exact .inl (by show v.ownBlock = some b; rw [← h]; exact hb)
    · have hb' : v'.ownBlock = some b := hb
      rw [h] at hb'; cases hb'; exact .inr (Nat.le_refl _)
theorem wl_append (H : St w0 G z O T w) (i : Nat) {t e size bytes : Nat} {zv : Value} {v : Value} {n : Nat} {xs : List Value} (hO : O[i]? = some (vec e size v n xs)) (hE : ElemOf P t e size bytes zv) {s x : Operand} (ho : o.op = .call { callee := .builtin .append, args := #[s, x], argTypes := #[t, t] })
    (hs : a.eval s = v) (hw : Region.wanted o (yielded ops a.tmps) = true) {src : Value} {m : Nat} {news : List Value} (hx : a.eval x = src) (hsrc : SrcOf w size src m news) (hbytes : (n + m) * bytes ≤ 140737488355328)
    (h : ∀ v' W, St w0 G z (O.set i (vec e size v' (n + m) (xs ++ news))) T W → w.heap.size ≤ W.heap.size → wpList P ops Q rest (a.put o.dst v') W) : wpList P ops Q (o :: rest) a w := by
  obtain ⟨v', W, h1, h2, h3⟩ := H.app (P := P) (ty := o.type) i hE hO hsrc hbytes
  refine BigFrame.wpList_want hw fun K hK => ?_
  unfold Oper.wp
  have hr : (execOp a.eval o).run P w = .ok (.value v') W := by
    simp [execOp, ho, resolve, invoke, builtin, hs, hx, h1, Result.andThen]
  rw [hr, Oper.upon_value]
  exact hK _ _ (h v' W h2 h3)
/-- nothing yet -/
theorem St.empty (H : St w0 G z O T w) (e size : Nat) : St w0 G z (vec e size (.slice none 0 0) 0 [] :: O) T w := by
  have := H.grow [vec e size (.slice none 0 0) 0 []] [] (Below.refl _ _) (by simp only [List.mem_singleton, forall_eq]; exact ⟨by simp, .inl ⟨rfl, rfl⟩⟩) (by simp only [List.mem_singleton, forall_eq]; rintro b h; cases h) (List.pairwise_singleton _ _) (by simp)
  simpa using this

theorem flat_get {α : Type} {n : Nat} {f : α → List Value} (hf : ∀ x, (f x).length = n) (hn : 0 < n) : ∀ (l : List α) (j : Nat) (u : Value), (l.map f).flatten[j]? = some u → ∃ x, l[j / n]? = some x ∧ (f x)[j % n]? = some u
  | [], j, u, h => by simp at h
  | x :: l, j, u, h => by
    simp only [List.map_cons, List.flatten_cons] at h
    by_cases hj : j < n
    · rw [List.getElem?_append_left (by rw [hf]; exact hj)] at h
      exact ⟨x, by rw [Nat.div_eq_of_lt hj]; rfl, by rw [Nat.mod_eq_of_lt hj]; exact h⟩
    · rw [List.getElem?_append_right (by rw [hf]; omega), hf] at h
      obtain ⟨y, h1, h2⟩ := flat_get hf hn l (j - n) u h
      have e : j = j - n + n := by omega
      refine ⟨y, ?_, ?_⟩
      · rw [e, Nat.add_div_right _ hn]; exact h1
      · rw [e, Nat.add_mod_right]; exact h2
theorem flat_len {α : Type} {n : Nat} {f : α → List Value} (hf : ∀ x, (f x).length = n) (l : List α) : (l.map f).flatten.length = l.length * n := by
  induction l with
  | nil => simp
  | cons x l ih => simp only [List.map_cons, List.flatten_cons, List.length_append, hf, ih, List.length_cons, Nat.add_mul]; omega
/-- a slice that is read, as the source of an append -/
theorem SlZ.src {α : Type} {r : Rdr α} {v : Value} {l : List α} (h : SlZ r z w v l) (hn : 0 < r.n) {f : α → List Value} (hf : ∀ {z w cs x}, r.R z w cs x → cs = f x) (hl : ∀ x, (f x).length = r.n) (h1 : ∀ x, ∀ u ∈ f x, u.oneCell' = true) : SrcOf w r.n v l.length (l.map f).flatten := by
  obtain ⟨ad, cap, rfl, h2, h3, h4, h5⟩ := h
  by_cases e : l = []
  · subst e
    cases ad with
    | none => have := h4 rfl; subst this; exact .inl ⟨rfl, rfl, rfl⟩
    | some ad => exact .inr ⟨ad, cap, rfl, by simp, by simp, by simp⟩
  · obtain ⟨b, o, rfl, hz, hr⟩ := h5 e
    refine .inr ⟨⟨b, o, none⟩, cap, rfl, flat_len hl l, fun j u hu => ?_, fun u hu => ?_⟩
    · obtain ⟨x, hx, hu'⟩ := flat_get hl hn l j u hu
      obtain ⟨cs, g1, g2⟩ := hr _ x hx
      have := hf g2
      subst this
      have hadd : (⟨b, o, none⟩ : Addr).add j = ⟨b, o + j, none⟩ := by unfold Addr.add; split <;> simp_all
      have := rng_at g1 _ _ hu'
      rw [hadd, show o + j = o + j / r.n * r.n + j % r.n by have := Nat.div_add_mod' j r.n; omega]
      exact this
    · obtain ⟨y, hy, hu⟩ := List.mem_flatten.1 hu
      obtain ⟨x, _, rfl⟩ := List.mem_map.1 hy
      exact h1 x u hu
/-- a block of one's own, as the source of an append -/
theorem src_va {w : World} {B : Nat} {cs : List Value} {t : TypeId} (h : (va B cs t).holds w) (size m c : Nat) (hl : cs.length = m * size) (h1 : ∀ u ∈ cs, u.oneCell' = true) : SrcOf w size (.slice (some ⟨B, 0, none⟩) m c) m cs := by
  have := src_block (w := w) size m c h (by simpa using hl) (by simpa using h1)
  simpa using this
theorem flat_at {α : Type} {n : Nat} {f : α → List Value} (hl : ∀ x, (f x).length = n) : ∀ (l : List α) (i : Nat) (x : α), l[i]? = some x → ((l.map f).flatten.drop (i * n)).take n = f x
  | [], i, x, h => by simp at h
  | y :: l, 0, x, h => by
    simp only [List.getElem?_cons_zero, Option.some.injEq] at h
    subst h
    simp only [Nat.zero_mul, List.drop_zero, List.map_cons, List.flatten_cons]
    rw [List.take_append_of_le_length (by rw [hl]; exact Nat.le_refl _), List.take_of_length_le (by rw [hl]; exact Nat.le_refl _)]
  | y :: l, i + 1, x, h => by
    simp only [List.getElem?_cons_succ] at h
    simp only [List.map_cons, List.flatten_cons]
    rw [Nat.succ_mul, List.drop_append, hl, List.drop_of_length_le (by rw [hl]; omega), List.nil_append, show i * n + n - n = i * n by omega]
    exact flat_at hl l i x h
/-- what was put together is read -/
theorem slz_vec {α : Type} {r : Rdr α} {e : TypeId} {v : Value} {l : List α} {f : α → List Value} {n : Nat} (h : w.ownsRow 0 e r.n v n (l.map f).flatten) (hl : ∀ x, (f x).length = r.n) (hn : 0 < r.n) (hz : ∀ b, v.ownBlock = some b → z b) (hf : ∀ x ∈ l, r.R z w (f x) x) : SlZ r z w v l := by
  have hln : n = l.length := by
    have := h.1; rw [flat_len hl] at this; exact (Nat.eq_of_mul_eq_mul_right hn this).symm
  subst hln
  rcases h.2 with ⟨rfl, h0⟩ | ⟨g, cap, cur, rfl, -, hg, hnc, hcm, hcs, htk⟩
  · rw [List.eq_nil_of_length_eq_zero h0]; exact SlZ.nil r z w
  · refine ⟨_, cap, rfl, hnc, hcm, (by intro h; cases h), fun _ => ⟨g, 0, rfl, hz g rfl, fun i x hx => ⟨f x, ?_, hf x (List.mem_of_getElem? hx)⟩⟩⟩
    have hi := (List.getElem?_eq_some_iff.1 hx).1
    have hle : i * r.n + r.n ≤ l.length * r.n := by rw [← Nat.succ_mul]; exact Nat.mul_le_mul_right _ hi
    have hle2 : l.length * r.n ≤ cap * r.n := Nat.mul_le_mul_right _ hnc
    unfold rng
    rw [hg]
    simp only [Nat.zero_add]
    rw [if_pos (by rw [hcs]; omega)]
    congr 1
    have : (cur.toList.drop (i * r.n)).take r.n = ((l.map f).flatten.drop (i * r.n)).take r.n := by
      rw [← htk, List.drop_take, List.take_take, Nat.min_eq_left (by omega)]
    rw [this]
    exact flat_at hl l i x hx
theorem run_loadVar_va {B : Nat} {cs : List Value} {t ty : TypeId} {n : Nat} (h : (va B cs t).holds w) (R : RowOf P ty n) (hn : cs.length = n) : (loadVar ty ⟨B, 0, none⟩).run P w = .ok (.agg cs.toArray) w := by
  obtain ⟨d, hu, hd⟩ : ∃ d, P.underlying ty = some d ∧ d.isRow = true := by
    have := R.und
    cases h : P.underlying ty with
    | none => simp [h] at this
    | some d => simp [h] at this; exact ⟨d, rfl, this⟩
  refine run_loadVar_mid w B 0 ty cs d (fun j v hv => ?_) hu hd (by rw [R.size, hn])
  have hb : w.heap[B]? = some (.cells cs.toArray t (0, 0)) := h
  rw [Nat.zero_add, cell_of_row w B j _ _ _ hb]; simpa using hv
theorem results_cell' {fn : Func} {p : Tmp} {ty : TypeId} (h : fn.results = #[.cell p ty]) (tmps : Array Value) (P : Program) (w : World) :
    (results fn tmps).run P w = ((asAddr (tmps.getD p undef)).run P w).andThen fun a w₁ => ((loadVar ty a).run P w₁).andThen fun v w₂ => .ok v w₂ := by
  simp [results, h]
  congr 1
  funext a w1
  cases (loadVar ty a).run P w1 <;> rfl
theorem ret_ct {fn : Func} {tmps : Array Value} {p q ty n : Nat} {B : Nat} {cs : List Value} {t : TypeId} {v : Value} (h : fn.results = #[.cell p ty, .tmp q]) (hp : tmps.getD p undef = .pointer (some ⟨B, 0, none⟩)) (hq : tmps.getD q undef = v) (hv : (va B cs t).holds w) (R : RowOf P ty n) (hn : cs.length = n) :
    (results fn tmps).run P w = .ok (.tuple #[.agg cs.toArray, v]) w := by
  rw [results_cell_tmp h, hp, hq]
  simp only [asAddr, Sem.run_pure, Result.andThen_ok, run_loadVar_va hv R hn]
theorem ret_c {fn : Func} {tmps : Array Value} {p ty n : Nat} {B : Nat} {cs : List Value} {t : TypeId} (h : fn.results = #[.cell p ty]) (hp : tmps.getD p undef = .pointer (some ⟨B, 0, none⟩)) (hv : (va B cs t).holds w) (R : RowOf P ty n) (hn : cs.length = n) :
    (results fn tmps).run P w = .ok (.agg cs.toArray) w := by
  rw [results_cell' h, hp]
  simp only [asAddr, Sem.run_pure, Result.andThen_ok, run_loadVar_va hv R hn]
theorem St.end_vec {e size n : Nat} {v : Value} {xs : List Value} (H : St w0 (fun _ => False) z (vec e size v n xs :: O) T w) : Below w0.heap.size w0 w ∧ w.ownsRow 0 e size v n xs ∧ ∀ b, v.ownBlock = some b → w0.heap.size ≤ b :=
  ⟨H.below', H.has 0 rfl, fun b hb => (H.new _ List.mem_cons_self b hb).resolve_right id⟩
theorem St.end_slz {α : Type} {r : Rdr α} {f : α → List Value} {e n : Nat} {v : Value} {l : List α} (H : St w0 (fun _ => False) z O T w) (i : Nat) (hO : O[i]? = some (vec e r.n v n (l.map f).flatten)) (hl : ∀ x, (f x).length = r.n) (hn : 0 < r.n) (hf : ∀ {z w x}, r.R z w (f x) x) : SlZ r (Fresh z w0 w) w v l :=
  slz_vec (H.has i hO) hl hn (fun b hb => .inr ⟨(H.new _ (List.mem_of_getElem? hO) b hb).resolve_right id, H.lt (List.mem_of_getElem? hO) hb⟩) (fun x _ => hf)
theorem own_slz {α : Type} {r : Rdr α} {f : α → List Value} {e n : Nat} {v : Value} {l : List α} {w w' : World} (h : w'.ownsRow w.heap.size e r.n v n (l.map f).flatten) (hl : ∀ x, (f x).length = r.n) (hn : 0 < r.n) (hf : ∀ {z w x}, r.R z w (f x) x) : SlZ r (Fresh z w w') w' v l := by
  have h0 : w'.ownsRow 0 e r.n v n (l.map f).flatten := ⟨h.1, h.2.imp_right (by rintro ⟨g, cap, cur, h1, h2, h3⟩; exact ⟨g, cap, cur, h1, Nat.zero_le _, h3⟩)⟩
  exact slz_vec h0 hl hn (fun b hb => .inr (h.lt b hb)) (fun x _ => hf)
theorem rng_sub {w : World} {b o n : Nat} {cs : List Value} (h : rng w b o n = some cs) (k m : Nat) (hk : k + m ≤ n) : rng w b (o + k) m = some ((cs.drop k).take m) := by
  unfold rng at h ⊢
  split at h
  · rename_i c t fr hb
    split at h
    · rename_i hle
      cases h
      simp only [show o + k + m ≤ c.size by omega, if_true, Option.some.injEq]
      rw [List.drop_take, List.drop_drop, List.take_take, Nat.min_eq_left (by omega)]
    · cases h
  · cases h
theorem ints_flat (l : List Int) : (l.map fun n => [Value.int .i64 n]).flatten = l.map (Value.int .i64) := by
  induction l with
  | nil => rfl
  | cons x l ih => simp [ih]
/-- the facts of a state, as one rule -/
theorem fxx : (∀ {w : World} {B : Nat} {cs : List Value} {t : TypeId} {l : List As}, Facts (va B cs t :: l) w = ((∀ k, w.cell? ⟨B, k, none⟩ = cs[k]?) ∧ (∀ k, w.frozen? ⟨B, k, none⟩ = false) ∧ (∀ o n, rng w B o n = if o + n ≤ cs.length then some ((cs.drop o).take n) else none) ∧ Facts l w)) ∧
    (∀ {w : World} {e size : Nat} {v : Value} {n : Nat} {xs : List Value} {l : List As}, Facts (vec e size v n xs :: l) w = Facts l w) ∧ (∀ {w : World}, FactsT [] w = True) ∧ (∀ {w : World}, Facts [] w = True) ∧
    (∀ {α : Type} {r : Rdr α} {cs : List Value} {a : α} {w : World} {l : List Rd}, FactsT (rd r cs a :: l) w = FactsT l w) ∧ (∀ {α : Type} {r : Rdr α} {v : Value} {a : List α} {w : World} {l : List Rd}, FactsT (rdS r v a :: l) w = FactsT l w) ∧
    (∀ {b o : Nat} {cs : List Value} {w : World} {l : List Rd}, FactsT (rdE b o cs :: l) w = (rng w b o cs.length = some cs ∧ CellsAt w b o 0 cs ∧ FactsT l w)) ∧
    (∀ {w : World} {b o i : Nat}, CellsAt w b o i [] = True) ∧ (∀ {w : World} {b o i : Nat} {v : Value} {cs : List Value}, CellsAt w b o i (v :: cs) = (w.cell? ⟨b, o + i, none⟩ = some v ∧ CellsAt w b o (i + 1) cs)) ∧
    (∀ (p : Prop), (p ∧ True) = p) ∧ (∀ (p : Prop), (True ∧ p) = p) ∧ (∀ {v : Value} {l : List Value}, (v :: l).length = l.length + 1) ∧ ([] : List Value).length = 0 ∧ (∀ (n : Nat), n + 0 = n) ∧ (∀ (n : Nat), 0 + n = n) ∧ (∀ (n : Nat), 0 * n = 0) ∧
    (∀ {α : Type} {x y : α} {l : List α}, (x :: l).set 0 y = y :: l) ∧ (∀ {α : Type} {x y : α} {l : List α} {i : Nat}, (x :: l).set (i + 1) y = x :: l.set i y) ∧
    1 + 1 = 2 ∧ 2 + 1 = 3 ∧ 3 + 1 = 4 ∧ 4 + 1 = 5 ∧ 5 + 1 = 6 ∧ 6 + 1 = 7 ∧ 7 + 1 = 8 ∧ 8 + 1 = 9 ∧ 9 + 1 = 10 ∧ 10 + 1 = 11 ∧ 11 + 1 = 12 ∧ 12 + 1 = 13 ∧ 13 + 1 = 14 ∧ 14 + 1 = 15 ∧ 15 + 1 = 16 :=
  ⟨facts_va, facts_vec, factsT_nil, facts_nil, factsT_rd, factsT_rdS, factsT_rdE, rfl, rfl, and_true, true_and, List.length_cons, List.length_nil, Nat.add_zero, Nat.zero_add, Nat.zero_mul, List.set_cons_zero, List.set_cons_succ, by decide⟩
theorem px : (∀ {cs : List Value} {o : Nat} {new : List Value}, putAt cs o new = cs.take o ++ new ++ cs.drop (o + new.length)) ∧ (∀ {v : Value} {l : List Value} {i : Nat}, (v :: l).take (i + 1) = v :: l.take i) ∧ (∀ {l : List Value}, l.take 0 = []) ∧
    (∀ {v : Value} {l : List Value} {i : Nat}, (v :: l).drop (i + 1) = l.drop i) ∧ (∀ {l : List Value}, l.drop 0 = l) ∧ (∀ {v : Value} {l m : List Value}, v :: l ++ m = v :: (l ++ m)) ∧ (∀ {l : List Value}, [] ++ l = l) ∧ (∀ {l : List Value}, l ++ [] = l) ∧
    (∀ {v : Value} {l : List Value}, (v :: l).length = l.length + 1) ∧ ([] : List Value).length = 0 ∧ (∀ (n : Nat), 0 + n = n) ∧ (∀ {α : Type} {x y : α} {l : List α}, (x :: l).set 0 y = y :: l) ∧ (∀ {α : Type} {x y : α} {l : List α} {i : Nat}, (x :: l).set (i + 1) y = x :: l.set i y) ∧
    1 + 1 = 2 ∧ 2 + 1 = 3 ∧ 3 + 1 = 4 ∧ 4 + 1 = 5 ∧ 5 + 1 = 6 ∧ 6 + 1 = 7 ∧ 7 + 1 = 8 ∧ 8 + 1 = 9 ∧ 9 + 1 = 10 ∧ 10 + 1 = 11 ∧ 11 + 1 = 12 ∧ 12 + 1 = 13 ∧ 13 + 1 = 14 ∧ 14 + 1 = 15 ∧ 15 + 1 = 16 :=
  ⟨rfl, List.take_succ_cons, List.take_zero, List.drop_succ_cons, List.drop_zero, List.cons_append, List.nil_append _, List.append_nil _, List.length_cons, List.length_nil, Nat.zero_add, List.set_cons_zero, List.set_cons_succ, by decide⟩
theorem pz : (∀ {t : Array Value} {ds : List Deferred} {i : Tmp} {v : Value}, Act.put ⟨t, ds⟩ (some i) v = ⟨t.setIfInBounds i v, ds⟩) ∧ (∀ {a : Act} {v : Value}, a.put none v = a) ∧ (∀ {l : List Value} {i : Nat} {v : Value}, l.toArray.setIfInBounds i v = (l.set i v).toArray) ∧ (∀ {α : Type} {x y : α} {l : List α}, (x :: l).set 0 y = y :: l) ∧ (∀ {α : Type} {x y : α} {l : List α} {i : Nat}, (x :: l).set (i + 1) y = x :: l.set i y) :=
  ⟨rfl, rfl, List.setIfInBounds_toArray .., List.set_cons_zero, List.set_cons_succ⟩
end
end Go.Proofs.YtcambhbmobepjaaGreat

namespace Go.Proofs.YtcambhbmobepjaaGreat
set_option linter.unusedSimpArgs false
set_option linter.unusedVariables false
open Go.RowKit
set_option maxRecDepth 10000
noncomputable section

/-- plain data: what lies in a slice's elements -/
inductive D where
  | n | i (v : Int) | b (v : Bool) | s (v : ByteArray) | l (v : List D) | t (v : List D)
  | ki (v : Int) | kb (v : Bool) | ks (v : ByteArray) | kl (v : List D)
namespace D
def toI : D → Int | .i v => v | .ki v => v | _ => 0
def toB : D → Bool | .b v => v | .kb v => v | _ => false
def toS : D → ByteArray | .s v => v | .ks v => v | _ => .empty
def raw : D → List D | .l v => v | .kl v => v | _ => []
/-- what was told as known ahead (a hint alone) -/
def isK : D → Bool | .ki _ => true | .kb _ => true | .ks _ => true | .kl _ => true | _ => false
def mkK (kn : Bool) (d : D) : D := bif kn then .kl d.raw else d
def toL (d : D) : List D := d.raw.take maxLen
def len (d : D) : Nat := d.toL.length
def get (d : D) (i : Nat) : D := d.toL.getD i .n
def cell (d : D) (j : Nat) : D := match d with | .t cs => cs.getD j .n | e => match j with | 0 => e | _ => .n
def app (a b : D) : D := .l (a.toL ++ b.toL)
def sub (a : D) (lo hi : Nat) : D := .l ((a.toL.take hi).drop lo)
def ofS (s : ByteArray) : D := .l (s.toList.map fun c => .i c.toNat)
def setE (d : D) (i : Nat) (e : D) : D := .l (d.toL.set i e)
def str (d : D) : ByteArray := ⟨(d.toL.map fun e => UInt8.ofNat (e.cell 0).toI.toNat).toArray⟩
theorem mkK_raw (kn : Bool) (d : D) : (mkK kn d).raw = d.raw := by cases kn <;> rfl
theorem mkK_len (kn : Bool) (d : D) : (mkK kn d).len = d.len := by unfold len toL; rw [mkK_raw]
theorem mkK_get (kn : Bool) (d : D) (i : Nat) : (mkK kn d).get i = d.get i := by unfold get toL; rw [mkK_raw]
theorem len_le (d : D) : d.len ≤ maxLen := by unfold len toL; exact List.length_take_le _ _
end D

/-- what a cell of an element is -/
inductive Sh where
  | int (k : IntKind) | bool | str | sl (es : List Sh)
mutual
def Sh.eqs : Sh → Sh → Bool
  | .int k, .int k' => decide (k = k')
  | .bool, .bool => true
  | .str, .str => true
  | .sl a, .sl b => Sh.eqsL a b
  | _, _ => false
def Sh.eqsL : List Sh → List Sh → Bool
  | [], [] => true
  | a :: xs, b :: ys => Sh.eqs a b && Sh.eqsL xs ys
  | _, _ => false
end
mutual
theorem Sh.eqs_eq : ∀ (a b : Sh), Sh.eqs a b = true → a = b
  | .int k, .int k', h => by simp [Sh.eqs] at h; rw [h]
  | .bool, .bool, _ => rfl
  | .str, .str, _ => rfl
  | .sl a, .sl b, h => by rw [Sh.eqsL_eq a b (by simpa [Sh.eqs] using h)]
  | .int _, .bool, h | .int _, .str, h | .int _, .sl _, h | .bool, .int _, h | .bool, .str, h | .bool, .sl _, h | .str, .int _, h | .str, .bool, h | .str, .sl _, h | .sl _, .int _, h | .sl _, .bool, h | .sl _, .str, h => by simp [Sh.eqs] at h
theorem Sh.eqsL_eq : ∀ (a b : List Sh), Sh.eqsL a b = true → a = b
  | [], [], _ => rfl
  | a :: xs, b :: ys, h => by
    simp [Sh.eqsL] at h
    rw [Sh.eqs_eq a b h.1, Sh.eqsL_eq xs ys h.2]
  | [], _ :: _, h | _ :: _, [], h => by simp [Sh.eqsL] at h
end
/-- the cells of a type -/
def shOf (P : Program) : Nat → TypeId → Option (List Sh)
  | 0, _ => none
  | n + 1, t => match P.underlying t with
    | some (.int k) => some [.int k]
    | some .bool => some [.bool]
    | some .string => some [.str]
    | some (.slice e) => (shOf P n e).map fun es => [.sl es]
    | some (.struct fs) => fs.toList.foldr (fun f r => match shOf P n f.type, r with | some a, some b => some (a ++ b) | _, _ => none) (some [])
    | some (.array m e) => (shOf P n e).map fun es => (List.replicate m es).flatten
    | _ => none
def shE (P : Program) (t : TypeId) : List Sh := (shOf P 8 t).getD []

/-- an abstract value: kn: it is made of constants -/
inductive AV where
  | any
  | sc (kn : Bool) (v : Value)
  | sl (kn : Bool) (es : List Sh) (d : D) (tip : Option (Nat × Nat))
  | ptr (o off : Nat)
  | mp (o : Nat)
  | ep (kn : Bool) (es : List Sh) (d : D) (j : Nat)
  | fn (f : Fn) (a c : List AV)
  | agg (cs : List AV)
  | tup (vs : List AV)
  | rsl (kn : Bool) (o n len : Nat)
  | rp (kn : Bool) (o n i j : Nat)
  | rw (es : List Sh) (d : D)

/-- a tree of answers -/
inductive RT (α : Type) where
  | ok (a : α) | bad (why : Nat) | br (b : Bool) (x y : RT α) | all (x y : RT α)
namespace RT
variable {α β : Type}
noncomputable def bind (x : RT α) (f : α → RT β) : RT β := @RT.rec α (fun _ => RT β) f (fun w => .bad w) (fun b _ _ x y => .br b x y) (fun _ _ x y => .all x y) x
theorem bind_br (b : Bool) (x y : RT α) (f : α → RT β) : (RT.br b x y).bind f = .br b (x.bind f) (y.bind f) := rfl
theorem bind_all (x y : RT α) (f : α → RT β) : (RT.all x y).bind f = .all (x.bind f) (y.bind f) := rfl
def holds : RT α → (α → Prop) → Prop
  | .ok a, Q => Q a
  | .bad _, _ => False
  | .br b x y, Q => (b = true → x.holds Q) ∧ (b = false → y.holds Q)
  | .all x y, Q => x.holds Q ∧ y.holds Q
theorem holds_bind {Q : β → Prop} (x : RT α) (f : α → RT β) : (x.bind f).holds Q ↔ x.holds fun a => (f a).holds Q := by
  induction x with
  | ok a => exact Iff.rfl
  | bad w => exact Iff.rfl
  | br b x y ihx ihy => simp only [bind_br, holds, ihx, ihy]
  | all x y ihx ihy => simp only [bind_all, holds, ihx, ihy]
theorem holds_mono {Q Q' : α → Prop} (h : ∀ a, Q a → Q' a) : ∀ (x : RT α), x.holds Q → x.holds Q'
  | .ok a, H => h a H
  | .bad _, H => H
  | .br b x y, H => ⟨fun hb => holds_mono h x (H.1 hb), fun hb => holds_mono h y (H.2 hb)⟩
  | .all x y, H => ⟨holds_mono h x H.1, holds_mono h y H.2⟩
end RT
/-- a branch: at what is known it is taken at once -/
def brk {α : Type} (kn b : Bool) (x y : RT α) : RT α := bif kn then (bif b then x else y) else .br b x y
theorem brk_holds {α : Type} {Q : α → Prop} {kn b : Bool} {x y : RT α} (h : (brk kn b x y).holds Q) : (b = true ∧ x.holds Q) ∨ (b = false ∧ y.holds Q) := by
  cases kn <;> cases b
  · exact .inr ⟨rfl, h.2 rfl⟩
  · exact .inl ⟨rfl, h.1 rfl⟩
  · exact .inr ⟨rfl, h⟩
  · exact .inl ⟨rfl, h⟩
/-- a condition that must hold -/
def need {α : Type} (kn b : Bool) (why : Nat) (x : RT α) : RT α := brk kn b x (.bad why)
theorem need_holds {α : Type} {Q : α → Prop} {kn b : Bool} {why : Nat} {x : RT α} (h : (need kn b why x).holds Q) : b = true ∧ x.holds Q := by
  rcases brk_holds h with h | ⟨_, h⟩
  · exact h
  · exact h.elim

/-- what the heap is -/
structure Hp where
  ob : List (Nat × List AV)
  nx : Nat
  gn : List (Nat × Nat × TypeId)
  nv : Nat
  ng : Nat
  ep : Nat
/-- a frame's temporaries -/
structure Tm where
  nt : Nat
  tm : List (Nat × AV)
  df : List (FuncId × List AV)

noncomputable def look (t : Nat) (l : List (Nat × AV)) : AV := @List.rec (Nat × AV) (fun _ => AV) .any (fun kv _ r => bif Nat.beq kv.1 t then kv.2 else r) l
theorem look_nil (t : Nat) : look t [] = .any := rfl
theorem look_cons (t k : Nat) (v : AV) (r : List (Nat × AV)) : look t ((k, v) :: r) = bif Nat.beq k t then v else look t r := rfl
noncomputable def lookO (o : Nat) (l : List (Nat × List AV)) : Option (List AV) := @List.rec (Nat × List AV) (fun _ => Option (List AV)) none (fun kv _ r => bif Nat.beq kv.1 o then some kv.2 else r) l
theorem lookO_nil (o : Nat) : lookO o [] = none := rfl
theorem lookO_con (o k : Nat) (v : List AV) (r : List (Nat × List AV)) : lookO o ((k, v) :: r) = bif Nat.beq k o then some v else lookO o r := rfl
noncomputable def lookG (k : Nat) (l : List (Nat × Nat × TypeId)) : Option (Nat × TypeId) := @List.rec (Nat × Nat × TypeId) (fun _ => Option (Nat × TypeId)) none (fun kv _ r => bif Nat.beq kv.1 k then some kv.2 else r) l
theorem lookG_nil (k : Nat) : lookG k [] = none := rfl
theorem lookG_con (k i : Nat) (g : Nat × TypeId) (r : List (Nat × Nat × TypeId)) : lookG k ((i, g) :: r) = bif Nat.beq i k then some g else lookG k r := rfl

def room : Nat := 140737488355328
/-- how many bytes an element takes: laid cell by cell -/
def Sh.al : Sh → Nat
  | .int k => k.bits / 8
  | .bool => 1
  | _ => 8
def Sh.by : Sh → Nat
  | .int k => k.bits / 8
  | .bool => 1
  | .str => 16
  | .sl _ => 24
def upTo (n a : Nat) : Nat := (n + (a - 1)) / a * a
def szF : List Sh → Nat → Nat → Nat
  | [], n, m => upTo n m
  | s :: ss, n, m => szF ss (upTo n s.al + s.by) (max m s.al)
def szB (es : List Sh) : Nat := szF es 0 1
/-! What abstract values mean. -/
structure Env where
  β : Nat → Nat
  live : Nat → Prop
  Z : Nat → Nat → Option Value
  vc : Nat → Value
  gn : Nat → Nat
  ve : Nat → TypeId
  m : Nat
  ng : Nat

mutual
def LF (Z : Nat → Nat → Option Value) : Sh → Value → D → Prop
  | .int k, v, d => v = .int k d.toI
  | .bool, v, d => v = .bool d.toB
  | .str, v, d => v = .string d.toS
  | .sl es, v, d => d.len * szB es ≤ room ∧ ∃ ad cap, v = .slice ad d.len cap ∧ d.len ≤ cap ∧ cap ≤ maxLen ∧ (ad = none → cap = 0) ∧
      (d.len ≠ 0 → ∃ b o, ad = some ⟨b, o, none⟩ ∧ ∀ i, i < d.len → EL Z es b (o + i * es.length) (d.get i) 0)
def EL (Z : Nat → Nat → Option Value) : List Sh → Nat → Nat → D → Nat → Prop
  | [], _, _, _, _ => True
  | s :: ss, b, o, d, j => (∃ v, Z b o = some v ∧ LF Z s v (d.cell j)) ∧ EL Z ss b (o + 1) d (j + 1)
end
/-- an element's cells within a row of values -/
def RE (Z : Nat → Nat → Option Value) : List Sh → Array Value → Nat → D → Nat → Prop
  | [], _, _, _, _ => True
  | s :: ss, cs, p, d, j => (∃ v, cs[p]? = some v ∧ LF Z s v (d.cell j)) ∧ RE Z ss cs (p + 1) d (j + 1)
mutual
def Rel (E : Env) : AV → Value → Prop
  | .any, _ => True
  | .sc _ u, v => v = u ∧ u.oneCell' = true
  | .sl _ es d tip, v => LF E.Z (.sl es) v d ∧ match tip with | none => True | some (k, g) => k < E.m ∧ g < E.ng ∧ (E.gn k = g → v = E.vc k)
  | .ptr o off, v => E.live o ∧ v = .pointer (some ⟨E.β o, off, none⟩)
  | .mp o, v => E.live o ∧ v = .map (some (E.β o))
  | .ep _ es d j, v => ∃ b o, v = .pointer (some ⟨b, o, none⟩) ∧ EL E.Z es b o d j
  | .fn f a c, v => ∃ a' c', v = .func f a' c' ∧ RelL E a a'.toList ∧ RelL E c c'.toList
  | .agg cs, v => ∃ cs', v = .agg cs' ∧ RelL E cs cs'.toList ∧ ∀ u ∈ cs'.toList, u.oneCell' = true
  | .tup vs, v => ∃ vs', v = .tuple vs' ∧ RelL E vs vs'.toList
  | .rsl _ o _ len, v => E.live o ∧ ∃ ad cap, v = .slice ad len cap ∧ len ≤ cap ∧ cap ≤ maxLen ∧ (ad = none → cap = 0) ∧ (len ≠ 0 → ad = some ⟨E.β o, 0, none⟩)
  | .rp _ o n i j, v => E.live o ∧ v = .pointer (some ⟨E.β o, i * n + j, none⟩)
  | .rw es d, v => d.len * szB es ≤ room ∧ ∃ cs, v = .agg cs ∧ ∀ i, i < d.len → RE E.Z es cs (i * es.length) (d.get i) 0
def RelL (E : Env) : List AV → List Value → Prop
  | [], vs => vs = []
  | a :: xs, vs => ∃ v vs', vs = v :: vs' ∧ Rel E a v ∧ RelL E xs vs'
end

/-- a wider meaning -/
structure Ext (E E' : Env) : Prop where
  live : ∀ o, E.live o → E'.live o
  β : ∀ o, E.live o → E'.β o = E.β o
  Z : ∀ b o v, E.Z b o = some v → E'.Z b o = some v
  m : E.m ≤ E'.m
  ng : E.ng ≤ E'.ng
  vc : ∀ k, k < E.m → (E'.vc k = E.vc k ∧ E'.gn k = E.gn k) ∨ E.ng ≤ E'.gn k
theorem Ext.refl (E : Env) : Ext E E := ⟨fun _ h => h, fun _ _ => rfl, fun _ _ _ h => h, Nat.le_refl _, Nat.le_refl _, fun _ _ => .inl ⟨rfl, rfl⟩⟩
theorem Ext.trans {E E1 E2 : Env} (h : Ext E E1) (h2 : Ext E1 E2) : Ext E E2 := by
  refine ⟨fun o ho => h2.live o (h.live o ho), fun o ho => (h2.β o (h.live o ho)).trans (h.β o ho), fun b o v hv => h2.Z _ _ _ (h.Z _ _ _ hv), Nat.le_trans h.m h2.m, Nat.le_trans h.ng h2.ng, fun k hk => ?_⟩
  rcases h2.vc k (Nat.lt_of_lt_of_le hk h.m) with ⟨a, b⟩ | a
  · rcases h.vc k hk with ⟨c, d⟩ | c
    · exact .inl ⟨a.trans c, b.trans d⟩
    · exact .inr (b ▸ c)
  · exact .inr (Nat.le_trans h.ng a)
mutual
theorem LF.mono {Z Z' : Nat → Nat → Option Value} (h : ∀ b o v, Z b o = some v → Z' b o = some v) : ∀ (s : Sh) (v : Value) (d : D), LF Z s v d → LF Z' s v d
  | .int _, _, _, H => H
  | .bool, _, _, H => H
  | .str, _, _, H => H
  | .sl es, v, d, ⟨h0, ad, cap, h1, h2, h3, h4, h5⟩ => ⟨h0, ad, cap, h1, h2, h3, h4, fun hn => by
      obtain ⟨b, o, h6, h7⟩ := h5 hn
      exact ⟨b, o, h6, fun i hi => EL.mono h es _ _ _ _ (h7 i hi)⟩⟩
theorem EL.mono {Z Z' : Nat → Nat → Option Value} (h : ∀ b o v, Z b o = some v → Z' b o = some v) : ∀ (es : List Sh) (b o : Nat) (d : D) (j : Nat), EL Z es b o d j → EL Z' es b o d j
  | [], _, _, _, _, _ => trivial
  | s :: ss, b, o, d, j, ⟨⟨v, h1, h2⟩, h3⟩ => ⟨⟨v, h _ _ _ h1, LF.mono h s v _ h2⟩, EL.mono h ss _ _ _ _ h3⟩
end
theorem RE.mono {Z Z' : Nat → Nat → Option Value} (h : ∀ b o v, Z b o = some v → Z' b o = some v) : ∀ (es : List Sh) (cs : Array Value) (p : Nat) (d : D) (j : Nat), RE Z es cs p d j → RE Z' es cs p d j
  | [], _, _, _, _, _ => trivial
  | s :: ss, cs, p, d, j, ⟨⟨v, h1, h2⟩, h3⟩ => ⟨⟨v, h1, LF.mono h s v _ h2⟩, RE.mono h ss _ _ _ _ h3⟩
mutual
theorem Rel.mono {E E' : Env} (h : Ext E E') : ∀ (a : AV) (v : Value), Rel E a v → Rel E' a v
  | .any, _, H => H
  | .sc _ _, _, H => H
  | .sl _ es d tip, v, ⟨h1, h2⟩ => ⟨LF.mono h.Z _ _ _ h1, by
      cases tip with
      | none => trivial
      | some kg =>
        obtain ⟨k, g⟩ := kg
        obtain ⟨h3, h4, h5⟩ := h2
        refine ⟨Nat.lt_of_lt_of_le h3 h.m, Nat.lt_of_lt_of_le h4 h.ng, fun hg => ?_⟩
        rcases h.vc k h3 with ⟨a, b⟩ | a
        · rw [a]; exact h5 (b ▸ hg)
        · have h6 : E'.gn k = g := hg
          omega⟩
  | .ptr o off, v, ⟨h1, h2⟩ => ⟨h.live o h1, by rw [h.β o h1]; exact h2⟩
  | .mp o, v, ⟨h1, h2⟩ => ⟨h.live o h1, by rw [h.β o h1]; exact h2⟩
  | .ep _ es d j, v, ⟨b, o, h1, h2⟩ => ⟨b, o, h1, EL.mono h.Z _ _ _ _ _ h2⟩
  | .fn f a c, v, ⟨a', c', h1, h2, h3⟩ => ⟨a', c', h1, RelL.mono h a _ h2, RelL.mono h c _ h3⟩
  | .agg cs, v, ⟨cs', h1, h2, h3⟩ => ⟨cs', h1, RelL.mono h cs _ h2, h3⟩
  | .tup vs, v, ⟨vs', h1, h2⟩ => ⟨vs', h1, RelL.mono h vs _ h2⟩
  | .rsl _ o _ len, v, ⟨h1, ad, cap, g1, g2, g3, g4, g5⟩ => ⟨h.live o h1, ad, cap, g1, g2, g3, g4, fun hn => by rw [h.β o h1]; exact g5 hn⟩
  | .rp _ o _ _ _, v, ⟨h1, h2⟩ => ⟨h.live o h1, by rw [h.β o h1]; exact h2⟩
  | .rw es d, v, ⟨h0, cs, h1, h2⟩ => ⟨h0, cs, h1, fun i hi => RE.mono h.Z _ _ _ _ _ (h2 i hi)⟩
theorem RelL.mono {E E' : Env} (h : Ext E E') : ∀ (xs : List AV) (vs : List Value), RelL E xs vs → RelL E' xs vs
  | [], _, H => H
  | a :: xs, _, ⟨v, vs', h1, h2, h3⟩ => ⟨v, vs', h1, Rel.mono h a v h2, RelL.mono h xs vs' h3⟩
end

section
variable {E : Env}
theorem RelL.length : ∀ {xs : List AV} {vs : List Value}, RelL E xs vs → xs.length = vs.length
  | [], _, h => by have h' : _ = ([] : List Value) := h; rw [h']; rfl
  | _ :: xs, _, ⟨_, vs', h, _, h2⟩ => by subst h; simp [RelL.length (xs := xs) h2]
theorem RelL.get : ∀ {xs : List AV} {vs : List Value}, RelL E xs vs → ∀ {i : Nat} {a : AV}, xs[i]? = some a → ∃ v, vs[i]? = some v ∧ Rel E a v
  | [], _, _, i, a, h => by simp at h
  | b :: xs, _, ⟨v, vs', h, h1, h2⟩, i, a, hi => by
    subst h
    cases i with
    | zero => simp at hi; subst hi; exact ⟨v, rfl, h1⟩
    | succ i => simp at hi; simpa using RelL.get h2 hi
theorem RelL.append : ∀ {xs : List AV} {vs : List Value} {ys : List AV} {us : List Value}, RelL E xs vs → RelL E ys us → RelL E (xs ++ ys) (vs ++ us)
  | [], _, _, _, h, h2 => by rw [show _ = [] from h]; exact h2
  | a :: xs, _, _, _, ⟨v, vs', h, h1, h3⟩, h2 => by subst h; exact ⟨v, _, rfl, h1, RelL.append h3 h2⟩
theorem RelL.take : ∀ (n : Nat) {xs : List AV} {vs : List Value}, RelL E xs vs → RelL E (xs.take n) (vs.take n)
  | 0, _, _, _ => by simp [RelL]
  | n + 1, [], _, h => by rw [show _ = [] from h]; simp [RelL]
  | n + 1, a :: xs, _, ⟨v, vs', h, h1, h3⟩ => by subst h; exact ⟨v, _, rfl, h1, RelL.take n h3⟩
theorem RelL.drop : ∀ (n : Nat) {xs : List AV} {vs : List Value}, RelL E xs vs → RelL E (xs.drop n) (vs.drop n)
  | 0, _, _, h => by simpa using h
  | n + 1, [], _, h => by rw [show _ = [] from h]; simp [RelL]
  | n + 1, a :: xs, _, ⟨v, vs', h, h1, h3⟩ => by subst h; simpa using RelL.drop n h3
theorem RelL.map_sc (kn : Bool) : ∀ (vs : List Value), (∀ u ∈ vs, u.oneCell' = true) → RelL E (vs.map (.sc kn)) vs
  | [], _ => rfl
  | v :: vs, h => ⟨v, vs, rfl, ⟨rfl, h v (by simp)⟩, RelL.map_sc kn vs fun u hu => h u (by simp [hu])⟩
end
end
end Go.Proofs.YtcambhbmobepjaaGreat

namespace Go.Proofs.YtcambhbmobepjaaGreat
set_option linter.unusedSimpArgs false
set_option linter.unusedVariables false
open Go.RowKit
set_option maxRecDepth 10000

noncomputable section
/-- no function of the program bears the name that calls treat apart -/
def noGor (P : Program) : Bool := P.funcs.toList.all fun fn => !(fn.name == "runtime.NumGoroutine")
def Fit (P : Program) : Prop := P.follows .mixedOrders = true ∧ noGor P = true
abbrev Spec := List AV → Hp → RT (AV × Hp)
inductive Ex where | normal | exit (id : Nat) | ret
abbrev Out := Ex × Tm × Hp
/-- what a block of a function does, where it is told -/
abbrev BSpec := Tm → Hp → RT Out

section
variable (P : Program)

def ofConst : Value → AV
  | .agg cs => bif cs.toList.all Value.oneCell' then .agg (cs.toList.map (.sc true)) else .any
  | .tuple _ => .any
  | v => .sc true v
def opnd (F : Tm) : Operand → AV
  | .tmp t => look t F.tm
  | .const v => ofConst v
  | .global _ => .any
  | .func f => .fn (.func f) [] []
/-- a value's cells -/
def cellsA : AV → Option (List AV)
  | .agg cs => some cs
  | .any => none
  | .tup _ => none
  | .rw _ _ => none
  | x => some [x]
def sizeT (t : TypeId) : Option Nat := (P.info? t).map (·.size)
/-- a slice whose structure is known tells of each element whether it is known -/
def hint (kn : Bool) (d : D) : Bool := bif kn then d.isK else false
def hintAll (kn : Bool) (d : D) : Bool := bif kn then d.toL.all (fun e => (e.cell 0).isK) else false
def leaf (kn : Bool) : Sh → D → AV
  | .int k, d => .sc (hint kn d) (.int k d.toI)
  | .bool, d => .sc (hint kn d) (.bool d.toB)
  | .str, d => .sc (hint kn d) (.string d.toS)
  | .sl es, d => .sl (hint kn d) es d none
def leaves (kn : Bool) : List Sh → D → Nat → List AV
  | [], _, _ => []
  | s :: ss, d, j => leaf kn s (d.cell j) :: leaves kn ss d (j + 1)
/-- cells, and no map -/
def isVar : List AV → Bool
  | [.tup _] => false
  | [.any] => false
  | [.agg _] => false
  | [.rw _ _] => false
  | _ => true
/-- a row's data -/
def rowOf (o : Nat) (h : Hp) : Option (List Sh × D) := match lookO o h.ob with | some [.rw es d] => some (es, d) | _ => none
/-- an element with other cells from j on -/
def putC : List Sh → Nat → Nat → List D → D → List D
  | [], _, _, _, _ => []
  | _ :: ss, k, j, [], e => e.cell k :: putC ss (k + 1) j [] e
  | _ :: ss, k, j, x :: r, e => bif Nat.ble j k then x :: putC ss (k + 1) j r e else e.cell k :: putC ss (k + 1) j (x :: r) e
def loadA (t : TypeId) (a : AV) (h : Hp) : RT AV :=
  match sizeT P t with
  | none => .bad 1
  | some n => match P.underlying t with
    | none => .bad 11
    | some td => match a with
      | .ptr o off => match lookO o h.ob with
        | none => .bad 2
        | some cs => bif isVar cs then (bif td.isRow then (bif Nat.ble (off + n) cs.length then .ok (.agg ((cs.drop off).take n)) else .bad 3)
          else match cs[off]? with | some x => .ok x | none => .bad 4) else .bad 160
      | .ep kn es d j => bif td.isRow then (bif Nat.ble n es.length then .ok (.agg (leaves kn (es.take n) d j)) else .bad 5)
          else match es with | s :: _ => .ok (leaf kn s (d.cell j)) | [] => .bad 6
      | .rp kn o m i j => match rowOf o h with
        | some (es, d) => bif Nat.beq m es.length then need kn (decide (i < d.len)) 170 (bif td.isRow then (bif Nat.ble (j + n) es.length then .ok (.agg (leaves kn ((es.drop j).take n) (d.get i) j)) else .bad 171)
          else match es.drop j with | s :: _ => .ok (leaf kn s ((d.get i).cell j)) | [] => .bad 172) else .bad 173
        | none => .bad 174
      | _ => .bad 7
def confA : Sh → AV → Option D
  | .int k, .sc kn (.int k' v) => bif decide (k = k') then some (bif kn then .ki v else .i v) else none
  | .bool, .sc kn (.bool v) => some (bif kn then .kb v else .b v)
  | .str, .sc kn (.string v) => some (bif kn then .ks v else .s v)
  | .sl es, .sl kn es' d _ => bif Sh.eqsL es es' then some (d.mkK kn) else none
  | .sl _, .sc _ (.slice none 0 0) => some (.kl [])
  | _, _ => none
def confL : List Sh → List AV → Option (List D)
  | [], [] => some []
  | s :: ss, x :: xs => match confA s x, confL ss xs with | some d, some ds => some (d :: ds) | _, _ => none
  | _, _ => none
def storeA (t : TypeId) (a x : AV) (h : Hp) : RT Hp :=
  match sizeT P t, a, cellsA x with
  | some n, .ptr o off, some new => match lookO o h.ob with
    | some cs => bif isVar cs && Nat.beq new.length n && Nat.ble (off + n) cs.length then .ok { h with ob := (o, cs.take off ++ new ++ cs.drop (off + n)) :: h.ob } else .bad 8
    | none => .bad 9
  | some n, .rp kn o m i j, some new => match rowOf o h with
    | some (es, d) => bif Nat.beq m es.length && Nat.beq new.length n && Nat.ble (j + n) es.length && Nat.ble 1 es.length then (match confL ((es.drop j).take n) new with
      | some ds => need kn (decide (i < d.len)) 175 (.ok { h with ob := (o, [.rw es (d.setE i (.t (putC es 0 j ds (d.get i))))]) :: h.ob })
      | none => .bad 176) else .bad 177
    | none => .bad 178
  | _, _, _ => .bad 10
/-- which entry of a map has a key -/
def findE (k : IntKind) (kn : Bool) (n : Int) : List AV → Nat → RT (Option (Nat × AV))
  | .sc k1 (.int k' m) :: v :: r, i => bif decide (k = k') then brk (kn && k1) (n == m) (.ok (some (i, v))) (findE k kn n r (i + 1)) else .bad 161
  | [], _ => .ok none
  | _, _ => .bad 162
def setE (k v : AV) : List AV → Nat → List AV
  | _ :: _ :: r, 0 => k :: v :: r
  | a :: b :: r, i + 1 => a :: b :: setE k v r i
  | l, _ => l
def mapOf (o : Nat) (h : Hp) : Option (List AV) := match lookO o h.ob with | some [.tup kvs] => some kvs | _ => none
def lookupA (t : TypeId) (m k : AV) (two : Bool) (h : Hp) : RT AV :=
  match P.underlying t, m, k with
  | some (.map kt vt), .mp o, .sc kn (.int kk n) => match P.underlying kt, mapOf o h with
    | some (.int _), some kvs => (findE kk kn n kvs 0).bind fun r => match r with
      | some (_, v) => .ok (bif two then .tup [v, .sc true (.bool true)] else v)
      | none => match (P.info? vt).bind (·.zero) with
        | some z => .ok (bif two then .tup [ofConst z, .sc true (.bool false)] else ofConst z)
        | none => .bad 163
    | _, _ => .bad 164
  | _, _, _ => .bad 165
def updateA (t : TypeId) (m k x : AV) (h : Hp) : RT Hp :=
  match P.underlying t, m, k with
  | some (.map kt _), .mp o, .sc kn (.int kk n) => match P.underlying kt, mapOf o h with
    | some (.int _), some kvs => (findE kk kn n kvs 0).bind fun r => match r with
      | some (i, _) => .ok { h with ob := (o, [.tup (setE k x kvs i)]) :: h.ob }
      | none => .ok { h with ob := (o, [.tup (kvs ++ [k, x])]) :: h.ob }
    | _, _ => .bad 166
  | _, _, _ => .bad 167
def newM (h : Hp) : AV × Hp := (.mp h.nx, { h with ob := (h.nx, [.tup []]) :: h.ob, nx := h.nx + 1 })
/-- a new variable -/
def newA (cs : List AV) (h : Hp) : AV × Hp := (.ptr h.nx 0, { h with ob := (h.nx, cs) :: h.ob, nx := h.nx + 1 })
def fillA (place : Nat → Option (Nat × Nat)) : List AV → List (Nat × AV) → Option (List AV)
  | cells, [] => some cells
  | cells, (i, x) :: rest => match place i, cellsA x with
    | some (off, n), some new => bif Nat.beq new.length n && Nat.ble (off + n) cells.length then fillA place (cells.take off ++ new ++ cells.drop (off + n)) rest else none
    | _, _ => none
def zeroA (t : TypeId) : Option (List AV) := match (P.info? t).bind (·.zero) with
  | some z => cellsA (ofConst z)
  | none => none
def fieldsA (fs : Array Field) (i : Nat) : Option (Nat × Nat) := match fs[i]? with
  | some f => (sizeT P f.type).map fun n => (f.offset, n)
  | none => none
def knownA : AV → Bool
  | .sc kn _ => kn
  | .sl kn _ _ _ => kn
  | _ => false
/-- the elements of a row of cells -/
def elsA (es : List Sh) : Nat → List AV → Option (List D)
  | 0, _ => some []
  | m + 1, cs => match confL es (cs.take es.length), elsA es m (cs.drop es.length) with | some d, some ds => some (.t d :: ds) | _, _ => none
/-- a slice: its shapes, its data -/
def asSl (es0 : List Sh) : AV → Option (Bool × List Sh × D)
  | .sl kn es d _ => some (kn, es, d)
  | .sc _ (.slice none 0 0) => some (true, es0, .l [])
  | _ => none
def newVec (kn : Bool) (es : List Sh) (d : D) (e : TypeId) (h : Hp) : AV × Hp :=
  (.sl kn es d (some (h.nv, h.ng)), { h with gn := (h.nv, h.ng, e) :: h.gn, nv := h.nv + 1, ng := h.ng + 1 })
def elemA (t : TypeId) : Option TypeId := match P.underlying t with | some (.slice e) => some e | _ => none

/-- a part of a row of cells -/
def partA (t : TypeId) (cs : List AV) (off : Nat) : Option AV :=
  match P.underlying t, sizeT P t with
  | some td, some n => bif td.isRow then some (.agg ((cs.drop off).take n)) else cs[off]?
  | _, _ => none
/-- both: (known, value) -/
def bothB (a b : Bool × Bool) : Bool × Bool := bif a.1 then (bif a.2 then b else (true, false)) else (a.1 && b.1, a.2 && b.2)
def eqFs (eq : TypeId → AV → AV → Option (Bool × Bool)) (xs ys : List AV) : List Field → Option (Bool × Bool)
  | [] => some (true, true)
  | f :: fs => bif decide (f.name = "_") then none else match partA P f.type xs f.offset, partA P f.type ys f.offset with
    | some a, some b => match eq f.type a b, eqFs eq xs ys fs with
      | some r, some s => some (bothB r s)
      | _, _ => none
    | _, _ => none
def eqIs (eq : AV → AV → Option (Bool × Bool)) (e : TypeId) (c : Nat) (xs ys : List AV) : List Nat → Option (Bool × Bool)
  | [] => some (true, true)
  | i :: is => match partA P e xs (i * c), partA P e ys (i * c) with
    | some a, some b => match eq a b, eqIs eq e c xs ys is with
      | some r, some s => some (bothB r s)
      | _, _ => none
    | _, _ => none
/-- whether two values are the same -/
def eqAV : Nat → TypeId → AV → AV → Option (Bool × Bool)
  | 0, _, _, _ => none
  | n + 1, t, x, y => match P.underlying t, x, y with
    | some (.int _), .sc k1 (.int k a), .sc k2 (.int k' b) => bif decide (k = k') then some (k1 && k2, a == b) else none
    | some .string, .sc k1 (.string a), .sc k2 (.string b) => some (k1 && k2, a.toList == b.toList)
    | some .bool, .sc k1 (.bool a), .sc k2 (.bool b) => some (k1 && k2, a == b)
    | some (.struct fs), .agg xs, .agg ys => bif P.stoodInHeld t then none else eqFs P (eqAV n) xs ys fs.toList
    | some (.array m e), .agg xs, .agg ys => match sizeT P e with
      | some c => eqIs P (eqAV n e) e c xs ys (List.range m)
      | none => none
    | _, _, _ => none
def indexA (t : TypeId) (x i : AV) : RT AV :=
  match P.underlying t, x, i with
  | some (.array m e), .agg cs, .sc true (.int _ n) => match sizeT P e with
    | some k => bif decide (0 ≤ n ∧ n < m) then (match partA P e cs (n.toNat * k) with | some v => .ok v | none => .bad 152) else .bad 153
    | none => .bad 154
  | some .string, .sc k1 (.string s), .sc k2 (.int _ n) => need (k1 && k2) (decide (0 ≤ n ∧ n < s.size)) 155 (.ok (.sc (k1 && k2) (.int .u8 (s.data.getD n.toNat 0).toNat)))
  | _, _, _ => .bad 156
def fieldA (t : TypeId) (x : AV) (f : Nat) : RT AV :=
  match P.underlying t, x with
  | some (.struct fs), .agg cs => match fs[f]? with
    | some fd => match partA P fd.type cs fd.offset with | some v => .ok v | none => .bad 157
    | none => .bad 158
  | _, _ => .bad 159
def intOp (op : BinOp) (k : IntKind) (kn : Bool) (a b : Int) : RT AV :=
  let r (n : Int) : RT AV := .ok (.sc kn (.int k n))
  let c (v : Bool) : RT AV := .ok (.sc kn (.bool v))
  match op with
  | .add => r (k.wrap (a + b))
  | .sub => r (k.wrap (a - b))
  | .mul => r (k.wrap (a * b))
  | .quo => need kn (b != 0) 20 (r (k.wrap (a.tdiv b)))
  | .rem => need kn (b != 0) 21 (r (a.tmod b))
  | .and => r (k.wrap (BitVec.ofInt k.bits a &&& BitVec.ofInt k.bits b).toNat)
  | .or => r (k.wrap (BitVec.ofInt k.bits a ||| BitVec.ofInt k.bits b).toNat)
  | .xor => r (k.wrap (BitVec.ofInt k.bits a ^^^ BitVec.ofInt k.bits b).toNat)
  | .andNot => r (k.wrap (BitVec.ofInt k.bits a &&& ~~~ BitVec.ofInt k.bits b).toNat)
  | .eql => c (a == b)
  | .neq => c (a != b)
  | .lss => c (decide (a < b))
  | .leq => c (decide (a ≤ b))
  | .gtr => c (decide (a > b))
  | .geq => c (decide (a ≥ b))
  | _ => .bad 22
def strOp (op : BinOp) (kn : Bool) (a b : ByteArray) : RT AV :=
  match op with
  | .eql => .ok (.sc kn (.bool (a.toList == b.toList)))
  | .neq => .ok (.sc kn (.bool (!(a.toList == b.toList))))
  | .lss => .ok (.sc kn (.bool (Op.bytesLess a.toList b.toList)))
  | .add => need kn (decide (a.size + b.size ≤ maxLen)) 23 (.ok (.sc kn (.string (a ++ b))))
  | _ => .bad 24
def binA (op : BinOp) (t : TypeId) (x y : AV) : RT AV :=
  match x, y with
  | .sc k1 (.int k a), .sc k2 (.int k' b) => match op with
    | .shl => need (k1 && k2) (decide (0 ≤ b)) 25 (.ok (.sc (k1 && k2) (.int k (k.wrap (a * 2 ^ (min b.toNat k.bits))))))
    | .shr => need (k1 && k2) (decide (0 ≤ b)) 26 (.ok (.sc (k1 && k2) (.int k (a.fdiv (2 ^ (min b.toNat k.bits))))))
    | op => bif decide (k = k') then intOp op k (k1 && k2) a b else .bad 27
  | .sc k1 (.string a), .sc k2 (.string b) => strOp op (k1 && k2) a b
  | .sc k1 (.bool a), .sc k2 (.bool b) => match P.underlying t with
    | some .bool => match op with
      | .eql => .ok (.sc (k1 && k2) (.bool (a == b)))
      | .neq => .ok (.sc (k1 && k2) (.bool (!(a == b))))
      | _ => .bad 28
    | _ => .bad 29
  | .sc _ .nilFunc, .sc _ .nilFunc => match P.underlying t, op with
    | some (.func ..), .eql => .ok (.sc true (.bool true))
    | some (.func ..), .neq => .ok (.sc true (.bool false))
    | _, _ => .bad 30
  | .sl kn _ d _, .sc _ (.slice none 0 0) => match P.underlying t, op with
    | some (.slice _), .eql => brk kn (decide (d.len = 0)) (.all (.ok (.sc true (.bool true))) (.ok (.sc true (.bool false)))) (.ok (.sc true (.bool false)))
    | some (.slice _), .neq => brk kn (decide (d.len = 0)) (.all (.ok (.sc true (.bool false))) (.ok (.sc true (.bool true)))) (.ok (.sc true (.bool true)))
    | _, _ => .bad 33
  | .sc _ (.slice none 0 0), .sc _ (.slice none 0 0) => match P.underlying t, op with
    | some (.slice _), .eql => .ok (.sc true (.bool true))
    | some (.slice _), .neq => .ok (.sc true (.bool false))
    | _, _ => .bad 34
  | .agg xs, .agg ys => bif P.eqGuardType P.depth t then .bad 150 else match op, eqAV P 16 t (.agg xs) (.agg ys) with
    | .eql, some (kn, r) => .ok (.sc kn (.bool r))
    | .neq, some (kn, r) => .ok (.sc kn (.bool (!r)))
    | _, _ => .bad 151
  | .fn _ _ _, .sc _ .nilFunc => match P.underlying t, op with
    | some (.func ..), .eql => .ok (.sc true (.bool false))
    | some (.func ..), .neq => .ok (.sc true (.bool true))
    | _, _ => .bad 31
  | _, _ => .bad 32
def unA (op : UnOp) (x : AV) : RT AV :=
  match op, x with
  | .not, .sc kn (.bool b) => .ok (.sc kn (.bool (!b)))
  | .neg, .sc kn (.int k n) => .ok (.sc kn (.int k (k.wrap (0 - n))))
  | _, _ => .bad 33
def convA (src dst : TypeId) (x : AV) (h : Hp) : RT AV :=
  match P.underlying src, P.underlying dst, x with
  | some (.int _), some (.int k), .sc kn (.int _ n) => .ok (.sc kn (.int k (k.wrap n)))
  | some (.slice e), some .string, .sl kn es d _ => match P.underlying e, es with
    | some (.int .u8), [.int .u8] => .ok (.sc (hintAll kn d) (.string d.str))
    | _, _ => .bad 34
  | some (.slice e), some .string, .sc _ (.slice none 0 0) => match P.underlying e with
    | some (.int .u8) => .ok (.sc true (.string .empty))
    | _ => .bad 35
  | _, _, _ => .bad 36
/-- a bound of a slice -/
def boundA (dflt : Int) : Option AV → Option (Bool × Int)
  | none => some (true, dflt)
  | some (.sc kn (.int _ n)) => some (kn, n)
  | _ => none
def sliceA (t : TypeId) (x : AV) (lo hi mx : Option AV) : RT AV :=
  match elemA P t with
  | some e => match asSl (shE P e) x, sizeT P e with
    | some (kn, es, d), some n => match boundA 0 lo, boundA d.len hi, boundA d.len mx with
      | some (k1, l), some (k2, u), some (k3, m) => bif Nat.beq n es.length && (mx.isNone || hi.isSome) then
          need (kn && k1 && k2 && k3) (decide (0 ≤ l ∧ l ≤ u ∧ u ≤ m ∧ m ≤ d.len)) 37 (.ok (.sl (kn && k1 && k2) es (d.sub l.toNat u.toNat) none)) else .bad 38
      | _, _, _ => .bad 39
    | _, _ => .bad 40
  | none => .bad 41
def indexAddrA (t : TypeId) (x i : AV) : RT AV :=
  match P.underlying t, x, i with
  | some (.slice e), .sl kn es d _, .sc k2 (.int _ n) => bif (match sizeT P e with | some m => Nat.beq m es.length | none => false) then
      need (kn && k2) (decide (0 ≤ n ∧ n < d.len)) 42 (.ok (.ep (kn && k2) es (d.get n.toNat) 0)) else .bad 43
  | some (.slice _), .sc _ (.slice none 0 0), .sc k2 (.int _ _) => need k2 false 48 (.bad 49)
  | some (.slice e), .rsl kn o m len, .sc k2 (.int _ n) => bif (match sizeT P e with | some k => Nat.beq k m | none => false) then
      need (kn && k2) (decide (0 ≤ n ∧ n < (len : Int))) 179 (.ok (.rp (kn && k2) o m n.toNat 0)) else .bad 180
  | some (.array m e), .ptr o off, .sc true (.int _ n) => match sizeT P e with
    | some k => bif decide (0 ≤ n ∧ n < m) then .ok (.ptr o (off + n.toNat * k)) else .bad 44
    | none => .bad 45
  | some (.array m e), .ep kn es d j, .sc true (.int _ n) => match sizeT P e with
    | some k => bif decide (0 ≤ n ∧ n < m) && Nat.ble (n.toNat * k) es.length then .ok (.ep kn (es.drop (n.toNat * k)) d (j + n.toNat * k)) else .bad 46
    | none => .bad 47
  | _, _, _ => .bad 50
def fieldAddrA (s : TypeId) (x : AV) (f : Nat) : RT AV :=
  match P.underlying s with
  | some (.struct fs) => match fs[f]? with
    | some fd => match sizeT P fd.type with
      | some (_ + 1) => match x with
        | .ptr o off => .ok (.ptr o (off + fd.offset))
        | .ep kn es d j => bif Nat.ble fd.offset es.length then .ok (.ep kn (es.drop fd.offset) d (j + fd.offset)) else .bad 51
        | .rp kn o m i j => .ok (.rp kn o m i (j + fd.offset))
        | _ => .bad 52
      | _ => .bad 53
    | none => .bad 54
  | _ => .bad 55
def buildA (t : TypeId) (parts : List (Nat × AV)) : RT AV :=
  match zeroA P t with
  | none => .bad 56
  | some z => match P.underlying t with
    | some (.struct fs) => bif fs.toList.all (fun f => (sizeT P f.type).isSome) then (match fillA (fieldsA P fs) z parts with | some cs => .ok (.agg cs) | none => .bad 57) else .bad 79
    | some (.array _ e) => match sizeT P e with
      | some n => match fillA (fun i => some (i * n, n)) z parts with | some cs => .ok (.agg cs) | none => .bad 58
      | none => .bad 59
    | _ => .bad 60
def rep {α : Type} (z : List α) : Nat → List α
  | 0 => []
  | m + 1 => z ++ rep z m
def buildSliceA (t : TypeId) (len : Nat) (parts : List (Nat × AV)) (h : Hp) : RT (AV × Hp) :=
  match elemA P t with
  | none => .bad 61
  | some e => match sizeT P e, zeroA P e with
    | some n, some z => bif Nat.ble (len * n) 16777216 && Nat.beq z.length n && Nat.beq (shE P e).length n && Nat.ble 1 n && Nat.ble (len * szB (shE P e)) room then
        match fillA (fun i => some (i * n, n)) (rep z len) parts with
        | some cs => match elsA (shE P e) len cs with
          | some ds => .ok (newVec true (shE P e) (.l ds) e h)
          | none => .bad 62
        | none => .bad 63 else .bad 64
    | _, _ => .bad 65
def appendA (t0 : TypeId) (s x : AV) (h : Hp) : RT (AV × Hp) :=
  match elemA P t0 with
  | none => .bad 66
  | some e => match P.info? e with
    | none => .bad 67
    | some inf => match inf.zero with
      | none => .bad 68
      | some z => bif Nat.beq z.cells.size inf.size && Nat.ble 1 inf.size && Nat.ble 1 inf.bytes && Nat.beq (shE P e).length inf.size && Nat.ble inf.bytes (szB (shE P e)) then
        match asSl (shE P e) x with
        | none => .bad 69
        | some (k2, es', d') => match s with
          | .sl k1 es d (some (k, g)) => match lookG k h.gn with
            | some (g', e') => bif Nat.beq g g' && Nat.beq e e' && Sh.eqsL es es' && Sh.eqsL es (shE P e) then
                let r : RT (AV × Hp) := .ok (.sl (k1 && k2) es (d.app d') (some (k, h.ng)), { h with gn := (k, h.ng, e) :: h.gn, ng := h.ng + 1 })
                bif k1 && Nat.beq d.len 0 then r else need (k1 && k2) (decide ((d.len + d'.len) * szB es ≤ room)) 70 r else .bad 71
            | none => .bad 72
          | .sc _ (.slice none 0 0) => bif Sh.eqsL (shE P e) es' then .ok (newVec k2 es' ((D.l []).app d') e h) else .bad 74
          | _ => .bad 75 else .bad 76
def lenA (t : TypeId) (x : AV) : RT AV :=
  match P.underlying t, x with
  | some (.slice _), .sl kn _ d _ => .ok (.sc kn (.int .i64 d.len))
  | some (.slice _), .sc _ (.slice none 0 0) => .ok (.sc true (.int .i64 0))
  | some (.slice _), .rsl kn _ _ len => .ok (.sc kn (.int .i64 len))
  | some .string, .sc kn (.string s) => .ok (.sc kn (.int .i64 s.size))
  | some (.array m _), _ => .ok (.sc true (.int .i64 m))
  | _, _ => .bad 77
def imin (a b : Int) : Int := if b < a then b else a
def imax (a b : Int) : Int := if b > a then b else a
def minA : List AV → RT AV
  | [.sc k1 (.int k a), .sc k2 (.int _ b)] => .ok (.sc (k1 && k2) (.int k (imin a b)))
  | _ => .bad 78
def maxA : List AV → RT AV
  | [.sc k1 (.int k a), .sc k2 (.int _ b)] => .ok (.sc (k1 && k2) (.int k (imax a b)))
  | _ => .bad 78
def builtinA (b : Builtin) (ts : Array TypeId) (xs : List AV) (h : Hp) : RT (AV × Hp) :=
  match b, xs with
  | .len, [x] => match ts.toList with | [t] => (lenA P t x).bind fun v => .ok (v, h) | _ => .bad 79
  | .append, [s, x] => match ts.toList with
    | [t, t'] => bif Nat.beq t t' then appendA P t s x h else .bad 80
    | _ => .bad 81
  | .min, xs => (minA xs).bind fun v => .ok (v, h)
  | .max, xs => (maxA xs).bind fun v => .ok (v, h)
  | _, _ => .bad 82
def evOp (call : FuncId → Spec) (o : Oper) (F : Tm) (h : Hp) : RT (AV × Hp) :=
  let v (r : RT AV) : RT (AV × Hp) := r.bind fun a => .ok (a, h)
  match o.op with
  | .move x => .ok (opnd F x, h)
  | .assign x => .ok (opnd F x, h)
  | .pick c a b => match opnd F c with | .sc kn (.bool t) => brk kn t (.ok (opnd F a, h)) (.ok (opnd F b, h)) | _ => .bad 83
  | .alloc e => match zeroA P e with | some cs => .ok (newA cs h) | none => .bad 84
  | .box _ x => match cellsA (opnd F x) with | some cs => .ok (newA cs h) | none => .bad 85
  | .build t ps => v (buildA P t (ps.toList.map fun p => (p.1, opnd F p.2)))
  | .buildSlice t n ps => buildSliceA P t n (ps.toList.map fun p => (p.1, opnd F p.2)) h
  | .load t a => v (loadA P t (opnd F a) h)
  | .store t a x => (storeA P t (opnd F a) (opnd F x) h).bind fun h => .ok (.any, h)
  | .makeMap _ none => .ok (newM h)
  | .lookup t m k two => v (lookupA P t (opnd F m) (opnd F k) two h)
  | .mapUpdate t m k x => (updateA P t (opnd F m) (opnd F k) (opnd F x) h).bind fun h => .ok (.any, h)
  | .nilCheck x => match opnd F x with
    | .ptr o off => .ok (.ptr o off, h)
    | .ep kn es d j => .ok (.ep kn es d j, h)
    | .rp kn o n i j => .ok (.rp kn o n i j, h)
    | .fn (.func f) a c => .ok (.fn (.func f) a c, h)
    | _ => .bad 86
  | .binOp op t x y _ => v (binA P op t (opnd F x) (opnd F y))
  | .unOp op _ x => v (unA op (opnd F x))
  | .convert s d x => v (convA P s d (opnd F x) h)
  | .makeFunc f a c => .ok (.fn f (a.toList.map (opnd F)) (c.toList.map (opnd F)), h)
  | .slice t x lo hi mx => v (sliceA P t (opnd F x) (lo.map (opnd F)) (hi.map (opnd F)) (mx.map (opnd F)))
  | .fieldAddr s x f => v (fieldAddrA P s (opnd F x) f)
  | .indexAddr t x i => v (indexAddrA P t (opnd F x) (opnd F i))
  | .index t x i => v (indexA P t (opnd F x) (opnd F i))
  | .field t x f => v (fieldA P t (opnd F x) f)
  | .extract t i => match opnd F t with | .tup vs => (match vs[i]? with | some a => .ok (a, h) | none => .bad 87) | _ => .bad 88
  | .call c => match c.callee with
    | .value f => match opnd F f with
      | .fn (.func g) a cap => call g (a ++ c.args.toList.map (opnd F) ++ cap) h
      | _ => .bad 89
    | .builtin b => builtinA P b c.argTypes (c.args.toList.map (opnd F)) h
    | _ => .bad 90
  | _ => .bad 91

def putA (F : Tm) (dst : Option Tmp) (v : AV) : RT Tm :=
  match dst with
  | none => .ok F
  | some d => bif Nat.blt d F.nt then .ok { F with tm := (d, v) :: F.tm } else .bad 92
def setA (F : Tm) (d : Nat) (b : Bool) : Tm := { F with tm := (d, .sc true (.bool b)) :: F.tm }
/-- a guard: go on, or leave out -/
def guardA {α : Type} (ops : Array Oper) (o : Oper) (F : Tm) (go skip : Tm → RT α) : RT α :=
  match o.guard with
  | none => go F
  | some (j, want) => match (ops[j]?).bind (·.dst) with
    | none => .bad 93
    | some d => match look d F.tm with
      | .sc kn (.bool b) => brk kn b (bif want then go (setA F d true) else skip (setA F d true)) (bif want then skip (setA F d false) else go (setA F d false))
      | .tup [] => skip F
      | _ => .bad 94
/-- a call that is put off -/
def deferA (o : Oper) (F : Tm) : Option (RT Tm) :=
  match o.op with
  | .defer c => some (match c.callee with
    | .value f => match opnd F f with
      | .fn (.func g) a cap => putA { F with df := (g, a ++ c.args.toList.map (opnd F) ++ cap) :: F.df } o.dst .any
      | _ => .bad 110
    | _ => .bad 111)
  | _ => none
def evStep (call : FuncId → Spec) (ops : Array Oper) (o : Oper) (F : Tm) (h : Hp) : RT (Tm × Hp) :=
  guardA ops o F (fun F => match deferA o F with
    | some r => r.bind fun F => .ok (F, h)
    | none => (evOp P call o F h).bind fun r => (putA F o.dst r.1).bind fun F => .ok (F, r.2)) (fun F => (putA F o.dst (.tup [])).bind fun F => .ok (F, h))
def evList (call : FuncId → Spec) (ops : Array Oper) (l : List Oper) : Tm → Hp → RT (Tm × Hp) :=
  @List.rec Oper (fun _ => Tm → Hp → RT (Tm × Hp)) (fun F h => .ok (F, h)) (fun o _ r F h => (evStep P call ops o F h).bind fun x => r x.1 x.2) l
theorem evList_nil (call : FuncId → Spec) (ops : Array Oper) (F : Tm) (h : Hp) : evList P call ops [] F h = .ok (F, h) := rfl
theorem evList_cons (call : FuncId → Spec) (ops : Array Oper) (o : Oper) (rest : List Oper) (F : Tm) (h : Hp) : evList P call ops (o :: rest) F h = (evStep P call ops o F h).bind fun r => evList P call ops rest r.1 r.2 := rfl

/-! A region that draws its order. -/
def cnt (o : Nat) (l : List (Nat × List AV)) : Nat := @List.rec (Nat × List AV) (fun _ => Nat) 0 (fun kv _ r => bif Nat.beq kv.1 o then Nat.succ r else r) l
theorem cnt_nil (o : Nat) : cnt o [] = 0 := rfl
theorem cnt_con (o k : Nat) (v : List AV) (r : List (Nat × List AV)) : cnt o ((k, v) :: r) = bif Nat.beq k o then cnt o r + 1 else cnt o r := rfl
/-- how often a block was written -/
def ver (o : Nat) (h : Hp) : Nat := h.ep + cnt o h.ob
/-- what waits for what -/
def waits (i : Nat) (o : Oper) : Bool := o.after.any fun e => Region.binds .any e && e.on == i
/-- an operation that reads alone: it may be taken first -/
def earlyA (o : Oper) : Bool :=
  match o.op with
  | .move _ | .assign _ | .pick .. | .build .. | .load .. | .nilCheck _ | .binOp .. | .unOp .. | .convert .. | .makeFunc .. | .slice .. | .fieldAddr .. | .indexAddr .. | .extract .. | .index .. | .field .. => true
  | .call { callee := .builtin .len, .. } | .call { callee := .builtin .min, .. } | .call { callee := .builtin .max, .. } => true
  | _ => false
/-- the same, loads set apart: they are taken in each order -/
def earlyN (o : Oper) : Bool := match o.op with | .load .. => false | _ => earlyA o
/-- which operations a region takes first (a table of loops may say: no loads) -/
def erOf (Λ : FuncId → Nat → Option (Tm → Hp → RT (Ex × Tm × Hp))) (f : FuncId) (id : Nat) : Oper → Bool := match Λ f (2000 + id) with | some _ => earlyN | none => earlyA
/-- what a promise is: operation i read block o when it had been written n times -/
abbrev Prm := List (Nat × Nat × Nat)
/-- the block that an address points into, where it may change -/
def tgt : AV → Option Nat
  | .ptr o _ => some o
  | .rp _ o _ _ _ => some o
  | _ => none
def promise (i : Nat) (o : Oper) (F : Tm) (h : Hp) : Prm :=
  match o.op with
  | .load _ a => match tgt (opnd F a) with | some b => [(i, b, ver b h)] | none => []
  | _ => []
def keepP (oj : Oper) : Prm → Prm
  | [] => []
  | p :: r => bif waits p.1 oj then keepP oj r else p :: keepP oj r
def keeps (h : Hp) : Prm → Bool
  | [] => true
  | (_, b, n) :: r => Nat.beq (ver b h) n && keeps h r
def evDrawn (er : Oper → Bool) (call : FuncId → Spec) (ops : Array Oper) : Nat → Array Bool → Prm → Tm → Hp → RT (Tm × Hp)
  | 0, listed, _, F, h => match Region.ready .any ops listed with | [] => .ok (F, h) | _ => .bad 95
  | n + 1, listed, pr, F, h =>
    let rdy := Region.ready .any ops listed
    match rdy.find? (fun i => match ops[i]? with | some o => er o | none => false) with
    | some i => match ops[i]? with
      | some o => bif Region.free .any ops listed i then
          (evStep P call ops o F h).bind fun r => evDrawn er call ops n (listed.setIfInBounds i true) (promise i o F h ++ pr) r.1 r.2 else .bad 96
      | none => .bad 97
    | none =>
      let one (i : Nat) : RT (Tm × Hp) := match ops[i]? with
        | some o => (evStep P call ops o F h).bind fun r => bif keeps r.2 (keepP o pr) then evDrawn er call ops n (listed.setIfInBounds i true) (keepP o pr) r.1 r.2 else .bad 98
        | none => .bad 99
      match rdy with
      | [] => .ok (F, h)
      | [i] => one i
      | [i, j] => .all (one i) (one j)
      | [i, j, k] => .all (one i) (.all (one j) (one k))
      | _ => .bad 100

/-! A region in which nothing changes: whatever the order, the same comes out: so it is read in the text's order. -/
mutual
/-- a value, what the heap h does not know left out -/
def calm (h : Hp) : AV → AV
  | .ptr o off => match lookO o h.ob with | some _ => .ptr o off | none => .any
  | .mp o => match lookO o h.ob with | some _ => .mp o | none => .any
  | .rsl kn o n len => match lookO o h.ob with | some _ => .rsl kn o n len | none => .any
  | .rp kn o n i j => match lookO o h.ob with | some _ => .rp kn o n i j | none => .any
  | .sl kn es d tip => match tip with
    | some (k, g) => bif Nat.blt k h.nv && Nat.blt g h.ng then .sl kn es d (some (k, g)) else .sl kn es d none
    | none => .sl kn es d none
  | .fn f a c => .fn f (calmL h a) (calmL h c)
  | .agg cs => .agg (calmL h cs)
  | .tup vs => .tup (calmL h vs)
  | .any => .any
  | .sc kn v => .sc kn v
  | .ep kn es d j => .ep kn es d j
  | .rw es d => .rw es d
def calmL (h : Hp) : List AV → List AV
  | [] => []
  | x :: xs => calm h x :: calmL h xs
end
/-- what was there is as it was -/
def quietH (h h' : Hp) : Bool :=
  (List.range h.nx).all (fun o => Nat.beq (ver o h') (ver o h)) && (List.range h.nv).all (fun k => match lookG k h.gn, lookG k h'.gn with
    | some (g, e), some (g', e') => Nat.beq g g' && Nat.beq e e'
    | _, _ => false)
def only (ls : List Nat) (F : Tm) : Tm := { F with tm := ls.map fun t => (t, look t F.tm) }
def isCallO (o : Oper) : Bool := match o.op with | .call { callee := .value _, .. } => true | _ => false
def sameDst (o : Oper) (d : Nat) : Bool := match o.dst with | some k => Nat.beq k d | none => false
def okPair (ops : Array Oper) (k : Nat) (ok : Oper) (j : Nat) : Bool := match ops[j]? with
  | some oj => match oj.dst with
    | some d => !(sameDst ok d) && (!((ok.looksAt ops).contains d) || waits j ok || waits k oj)
    | none => true
  | none => true
def okQ (ops : Array Oper) (m : Nat) : Bool := (List.range ops.size).all fun k => match ops[k]? with
  | some ok => ok.after.all (fun e => !(Region.binds .any e) || Nat.blt e.on k) && (bif Nat.blt k m then (List.range m).all fun j => Nat.beq j k || okPair ops k ok j else true)
  | none => false
/-- a new variable, whatever stands around -/
def isAllocO (o : Oper) : Bool := match o.op, o.guard, o.dst with | .alloc _, none, some _ => true | _, _, _ => false
def isQuietO (o : Oper) : Bool := earlyA o || isCallO o || isAllocO o
def leadQ : List Oper → Nat
  | [] => 0
  | o :: r => bif isQuietO o then leadQ r + 1 else 0
def rdyB (ops : Array Oper) (S : Nat → Bool) (k : Nat) : Bool := match ops[k]? with
  | some o => o.after.all fun e => !(Region.binds .any e) || S e.on
  | none => false
def wtB (ops : Array Oper) (i j : Nat) : Bool := match ops[j]? with | some o => waits i o | none => false
/-- which of the first m operation k waits for, near or far -/
def cov (ops : Array Oper) (k m : Nat) : Nat → List Nat
  | 0 => []
  | c + 1 => bif wtB ops (m - (c + 1)) k || (cov ops k m c).any (fun j => wtB ops (m - (c + 1)) j) then (m - (c + 1)) :: cov ops k m c else cov ops k m c
/-- behind the first m all come in their row -/
def sufOk (ops : Array Oper) (m : Nat) : Bool := (List.range ops.size).all fun k => Nat.blt k m ||
  ((List.range m).all (fun i => (cov ops k m m).contains i) && (List.range ops.size).all (fun j => !(Nat.blt k j) || !(rdyB ops (fun x => Nat.blt x k) j)))
/-- what each operation waits for, as bits -/
def ancs (ops : List Oper) : List Nat := ops.foldl (fun acc o => acc ++ [o.after.toList.foldl (fun m e => bif Region.binds .any e then Nat.lor (Nat.lor m (Nat.shiftLeft 1 e.on)) (acc.getD e.on 0) else m) 0]) []
def unordB : List (Bool × Nat) → Nat → List Nat → Bool
  | [], _, _ => false
  | (c, m) :: r, i, cs => bif c then (bif cs.all (fun k => Nat.testBit m k) then unordB r (i + 1) (i :: cs) else true) else unordB r (i + 1) cs
/-- two operations that may come up in either order, a new variable among them -/
def unord (ops : Array Oper) : Bool := bif ops.toList.any isAllocO then unordB ((ops.toList.map fun o => !(earlyA o)).zip (ancs ops.toList)) 0 [] else false
def quietR (ops : Array Oper) : Bool := bif unord ops then (bif okQ ops (leadQ ops.toList) then sufOk ops (leadQ ops.toList) else false) else false
def actQ (call : FuncId → Spec) (ops : Array Oper) (o : Oper) (F : Tm) (h : Hp) : RT Tm := (evStep P call ops o (only (o.looksAt ops) F) h).bind fun r => bif quietH h r.2 then (match o.dst with
  | some d => .ok { F with tm := (d, calm h (look d r.1.tm)) :: F.tm }
  | none => .ok F) else .bad 231
def evQ1 (call : FuncId → Spec) (ops : Array Oper) (o : Oper) (F : Tm) (h : Hp) : RT Tm := match o.guard with
  | none => actQ P call ops o F h
  | some (j, _) => match (ops[j]?).bind (·.dst) with
    | none => .bad 232
    | some d => match look d F.tm with
      | .sc kn (.bool b) => brk kn b (actQ P call ops o (setA F d true) h) (actQ P call ops o (setA F d false) h)
      | .tup [] => actQ P call ops o F h
      | _ => .bad 233
/-- where the answer is one -/
def detA {α : Type} (x : RT α) : RT α := @RT.rec α (fun _ => RT α) (fun a => .ok a) (fun w => .bad w) (fun b _ _ x y => .br b x y) (fun _ _ _ _ => .bad 234) x
/-- the new variables, in the text's order -/
def adoptQ (h0 : Hp) (l : List Oper) : Tm → Hp → RT (Tm × Hp) :=
  @List.rec Oper (fun _ => Tm → Hp → RT (Tm × Hp)) (fun F h => .ok (F, h)) (fun o _ r F h => bif isAllocO o then (match o.op, o.dst with
    | .alloc e, some d => match zeroA P e with
      | some cs => r { F with tm := (d, .ptr h.nx 0) :: F.tm } (newA (calmL h0 cs) h).2
      | none => .bad 235
    | _, _ => .bad 236) else r F h) l
def evQs (call : FuncId → Spec) (ops : Array Oper) (h : Hp) (l : List Oper) : Tm → RT Tm :=
  @List.rec Oper (fun _ => Tm → RT Tm) (fun F => .ok F) (fun o _ r F => (detA (evQ1 P call ops o F h)).bind r) l
def evReg (call : FuncId → Spec) (ops : Array Oper) (F : Tm) (h : Hp) : RT (Tm × Hp) :=
  (evQs P call ops h (ops.toList.take (leadQ ops.toList)) F).bind fun F => (adoptQ P h (ops.toList.take (leadQ ops.toList)) F h).bind fun r => evList P call ops (ops.toList.drop (leadQ ops.toList)) r.1 r.2

/-! Code and calls. -/
variable (Γ : FuncId → Option Spec) (Λ : FuncId → Nat → Option BSpec)
def enterA (fn : Func) (args : List AV) : Tm := ⟨fn.ntmps, (List.range args.length).zip args, []⟩
def resA (F : Tm) (h : Hp) : List ResultVar → RT (List AV)
  | [] => .ok []
  | .tmp t :: r => (resA F h r).bind fun vs => .ok (look t F.tm :: vs)
  | .cell a t :: r => (loadA P t (look a F.tm) h).bind fun v => (resA F h r).bind fun vs => .ok (v :: vs)
def resultA (fn : Func) (F : Tm) (h : Hp) : RT (AV × Hp) :=
  (resA P F h fn.results.toList).bind fun vs => match vs with
    | [v] => .ok (v, h)
    | vs => .ok (.tup vs, h)
def plainF (f : FuncId) : Option (Func × Code) := match P.funcs[f]? with
  | some fn => match fn.body with
    | some c => some (fn, c)
    | none => none
  | none => none
/-- the calls that were put off -/
def runDf (rec : FuncId → Code → Tm → Hp → RT Out) : List (FuncId × List AV) → Hp → RT Hp
  | [], h => .ok h
  | (g, args) :: r, h => match plainF P g with
    | none => .bad 112
    | some (fn, b) => bif Nat.ble args.length fn.ntmps then (rec g b (enterA fn args) h).bind fun x => match x.1, x.2.1.df with
      | .exit _, _ => .bad 113
      | _, [] => (resultA P fn x.2.1 x.2.2).bind fun y => runDf rec r y.2
      | _, _ => .bad 114 else .bad 115
/-- a function's own code -/
def bodyE (rec : FuncId → Code → Tm → Hp → RT Out) (g : FuncId) (fn : Func) (b : Code) : Spec := fun args h =>
  bif Nat.ble args.length fn.ntmps then (rec g b (enterA fn args) h).bind fun r => match r.1 with
    | .exit _ => .bad 103
    | _ => (runDf P rec r.2.1.df r.2.2).bind fun h => resultA P fn r.2.1 h else .bad 107
def callE (rec : FuncId → Code → Tm → Hp → RT Out) : FuncId → Spec := fun g args h => match plainF P g with
  | none => .bad 102
  | some (fn, b) => match Γ g with
    | some sp => sp args h
    | none => bodyE P rec g fn b args h
/-- whether a region is read in the text's order (a table of loops may say no) -/
def asRow (Λ : FuncId → Nat → Option BSpec) (f : FuncId) (id : Nat) (ops : Array Oper) : Bool := match Λ f (1000 + id) with
  | some _ => false
  | none => quietR ops
def evC : Nat → FuncId → Code → Tm → Hp → RT Out
  | 0, _, _, _, _ => .bad 101
  | n + 1, f, c, F, h =>
    match c with
    | .skip => .ok (.normal, F, h)
    | .region _ ops false => (evList P (callE P Γ (evC n)) ops ops.toList F h).bind fun r => .ok (.normal, r.1, r.2)
    | .region id ops true => bif asRow Λ f id ops then (evReg P (callE P Γ (evC n)) ops F h).bind fun r => .ok (.normal, r.1, r.2) else bif Region.noSelect ops then (evDrawn P (erOf Λ f id) (callE P Γ (evC n)) ops ops.size (Array.replicate ops.size false) [] F h).bind fun r => .ok (.normal, r.1, r.2) else .bad 108
    | .seq a b => (evC n f a F h).bind fun r => match r.1 with | .normal => evC n f b r.2.1 r.2.2 | e => .ok (e, r.2.1, r.2.2)
    | .cond c a b => match c with
      | .tmp t => match look t F.tm with
        | .sc kn (.bool v) => brk kn v (evC n f a (setA F t true) h) (evC n f b (setA F t false) h)
        | _ => .bad 104
      | _ => .bad 105
    | .block id b => match Λ f id with
      | some sp => sp F h
      | none => (evC n f b F h).bind fun r => match r.1 with
        | .exit j => bif Nat.beq j id then .ok (.normal, r.2.1, r.2.2) else .ok (.exit j, r.2.1, r.2.2)
        | e => .ok (e, r.2.1, r.2.2)
    | .loop b => (evC n f b F h).bind fun r => match r.1 with
      | .normal => evC n f (.loop b) r.2.1 r.2.2
      | e => .ok (e, r.2.1, r.2.2)
    | .exit id => .ok (.exit id, F, h)
    | .ret => .ok (.ret, F, h)
    | _ => .bad 106
/-- a call, by the function's own code -/
def evF (n : Nat) (f : FuncId) : Spec := fun args h => match plainF P f with
  | none => .bad 102
  | some (fn, b) => bodyE P (evC P Γ Λ n) f fn b args h
end
end
end Go.Proofs.YtcambhbmobepjaaGreat

namespace Go.Proofs.YtcambhbmobepjaaGreat
set_option linter.unusedSimpArgs false
set_option linter.unusedVariables false
open Go.RowKit
set_option maxRecDepth 10000
noncomputable section

/-- a block's things -/
def flat (es : List MapEntry) : List Value := es.flatMap fun e => [e.key, e.val]
def ObOk (ob : Obj) (vs : List Value) : Prop := (∃ t, ob = .cells vs.toArray t (0, 0) ∧ ∀ u ∈ vs, u.oneCell' = true) ∨ (∃ es clock, ob = .map es clock ∧ vs = [.tuple (flat es.toList).toArray]) ∨
  ∃ cs t, ob = .cells cs t (0, 0) ∧ vs = [.agg cs]
theorem ob_cells {E : Env} {cs : List AV} {vs : List Value} {ob : Obj} (hv : isVar cs = true) (hr : RelL E cs vs) (ho : ObOk ob vs) : ∃ t, ob = .cells vs.toArray t (0, 0) ∧ ∀ u ∈ vs, u.oneCell' = true := by
  have key : ∀ x, vs = [x] → ((∃ l, x = .tuple l) ∨ ∃ l, x = .agg l) → False := by
    rintro v0 rfl hx
    cases cs with
    | nil => cases hr
    | cons x cs =>
      obtain ⟨v, vs', h1, h2, h3⟩ := hr
      cases h1
      cases cs with
      | nil =>
        cases x with
        | any => cases hv
        | tup vs => cases hv
        | sc kn u =>
          obtain ⟨rfl, h⟩ := h2
          rcases hx with ⟨_, rfl⟩ | ⟨_, rfl⟩ <;> cases h
        | sl kn es d tip => obtain ⟨⟨_, ad, cap, h, _⟩, _⟩ := h2; rcases hx with ⟨_, rfl⟩ | ⟨_, rfl⟩ <;> cases h
        | ptr o off => obtain ⟨_, h⟩ := h2; rcases hx with ⟨_, rfl⟩ | ⟨_, rfl⟩ <;> cases h
        | mp o => obtain ⟨_, h⟩ := h2; rcases hx with ⟨_, rfl⟩ | ⟨_, rfl⟩ <;> cases h
        | ep kn es d j => obtain ⟨_, _, h, _⟩ := h2; rcases hx with ⟨_, rfl⟩ | ⟨_, rfl⟩ <;> cases h
        | fn f a c => obtain ⟨_, _, h, _⟩ := h2; rcases hx with ⟨_, rfl⟩ | ⟨_, rfl⟩ <;> cases h
        | agg cs => cases hv
        | rsl kn o n len => obtain ⟨_, ad, cap, h, _⟩ := h2; rcases hx with ⟨_, rfl⟩ | ⟨_, rfl⟩ <;> cases h
        | rp kn o n i j => obtain ⟨_, h⟩ := h2; rcases hx with ⟨_, rfl⟩ | ⟨_, rfl⟩ <;> cases h
        | rw es d => cases hv
      | cons _ _ => obtain ⟨_, _, h, _⟩ := h3; cases h
  rcases ho with ho | ⟨es, clock, _, h⟩ | ⟨c, t, _, h⟩
  · exact ho
  · exact (key _ h (.inl ⟨_, rfl⟩)).elim
  · exact (key _ h (.inr ⟨_, rfl⟩)).elim
/-- what holds of the world -/
structure Inv (P : Program) (w0 : World) (G : Nat → Prop) (E : Env) (h : Hp) (w : World) : Prop where
  kpt : Kpt w0 w G
  m : E.m = h.nv
  ng : E.ng = h.ng
  gn : ∀ k, k < h.nv → lookG k h.gn = some (E.gn k, E.ve k)
  gnlt : ∀ k, k < h.nv → E.gn k < h.ng
  live : ∀ o, E.live o ↔ (lookO o h.ob).isSome = true
  nx : ∀ o, E.live o → o < h.nx
  ob : ∀ o cs, lookO o h.ob = some cs → ∃ vs ob, w.heap[E.β o]? = some ob ∧ RelL E cs vs ∧ ObOk ob vs
  own : ∀ o, E.live o → w0.heap.size ≤ E.β o ∨ G (E.β o)
  inj : ∀ o o', E.live o → E.live o' → E.β o = E.β o' → o = o'
  z : ∀ b j v, E.Z b j = some v → w.cell? ⟨b, j, none⟩ = some v
  zob : ∀ o j, E.live o → E.Z (E.β o) j = none
  vec : ∀ k, k < h.nv → ∃ sz n xs, sizeT P (E.ve k) = some sz ∧ w.ownsRow 0 (E.ve k) sz (E.vc k) n xs ∧ (∀ u ∈ xs, u.oneCell' = true) ∧
    ∀ b, (E.vc k).ownBlock = some b → (w0.heap.size ≤ b ∨ G b) ∧ (∀ o, E.live o → E.β o ≠ b) ∧ ∀ j, E.Z b j = xs[j]?
  vinj : ∀ k k' b, k < h.nv → k' < h.nv → (E.vc k).ownBlock = some b → (E.vc k').ownBlock = some b → k = k'
/-- temporaries -/
def RelD (E : Env) : List (FuncId × List AV) → List Deferred → Prop
  | [], ds => ds = []
  | (g, xs) :: r, ds => ∃ cap args ds', ds = ⟨.fn (.func g) cap, args⟩ :: ds' ∧ RelL E xs (args.toList ++ cap.toList) ∧ RelD E r ds'
theorem RelD.mono {E E' : Env} (hx : Ext E E') : ∀ {l : List (FuncId × List AV)} {ds : List Deferred}, RelD E l ds → RelD E' l ds
  | [], _, h => h
  | (g, xs) :: r, _, ⟨cap, args, ds', h1, h2, h3⟩ => ⟨cap, args, ds', h1, RelL.mono hx _ _ h2, RelD.mono hx h3⟩
structure RelT (E : Env) (F : Tm) (a : Act) : Prop where
  sz : a.tmps.size = F.nt
  tm : ∀ i, Rel E (look i F.tm) (a.tmps.getD i undef)
  df : RelD E F.df a.defers
theorem RelT.mono {E E' : Env} {F : Tm} {a : Act} (h : RelT E F a) (hx : Ext E E') : RelT E' F a := ⟨h.sz, fun i => Rel.mono hx _ _ (h.tm i), h.df.mono hx⟩

theorem one_cells {v : Value} (h : v.oneCell' = true) : v.cells = #[v] := by cases v <;> first | rfl | simp [Value.oneCell'] at h
theorem one_of {v : Value} (h1 : ∀ cs, v ≠ .agg cs) (h2 : ∀ cs, v ≠ .tuple cs) : v.oneCell' = true := by cases v <;> first | rfl | exact absurd rfl (h1 _) | exact absurd rfl (h2 _)
section
variable {P : Program} {E : Env} {F : Tm} {h : Hp} {w w0 : World} {G : Nat → Prop} {a : Act}

theorem rel_const (v : Value) : Rel E (ofConst v) v := by
  unfold ofConst
  split
  · rename_i cs
    cases hc : cs.toList.all Value.oneCell'
    · exact trivial
    · have := List.all_eq_true.1 hc
      exact ⟨cs, rfl, RelL.map_sc true _ this, this⟩
  · exact trivial
  · rename_i h1 h2
    exact ⟨rfl, one_of (fun cs e => h1 cs e) (fun cs e => h2 cs e)⟩
theorem rel_opnd (hT : RelT E F a) (x : Operand) : Rel E (opnd F x) (a.eval x) := by
  cases x with
  | tmp t => exact hT.tm t
  | const v => exact rel_const v
  | global g => exact trivial
  | func f => exact ⟨#[], #[], rfl, rfl, rfl⟩
theorem rel_map (hT : RelT E F a) : ∀ (l : List Operand), RelL E (l.map (opnd F)) (l.map a.eval)
  | [] => rfl
  | x :: l => ⟨_, _, rfl, rel_opnd hT x, rel_map hT l⟩
theorem rel_cells : ∀ {x : AV} {v : Value} {cs : List AV}, Rel E x v → cellsA x = some cs → RelL E cs v.cells.toList ∧ ∀ u ∈ v.cells.toList, u.oneCell' = true := by
  intro x v cs hr hc
  have one : v.oneCell' = true → RelL E [x] v.cells.toList ∧ ∀ u ∈ v.cells.toList, u.oneCell' = true := fun h1 => by
    rw [one_cells h1]
    exact ⟨⟨v, [], rfl, hr, rfl⟩, by simpa using h1⟩
  cases x with
  | any => cases hc
  | tup vs => cases hc
  | agg cs' =>
    cases hc
    obtain ⟨vs, rfl, h1, h2⟩ := hr
    exact ⟨h1, h2⟩
  | sc kn u => cases hc; obtain ⟨rfl, h1⟩ := hr; exact one h1
  | sl kn es d tip => cases hc; obtain ⟨⟨_, ad, cap, rfl, _⟩, _⟩ := hr; exact one rfl
  | ptr o off => cases hc; obtain ⟨_, rfl⟩ := hr; exact one rfl
  | mp o => cases hc; obtain ⟨_, rfl⟩ := hr; exact one rfl
  | ep kn es d j => cases hc; obtain ⟨b, o, rfl, _⟩ := hr; exact one rfl
  | rsl kn o n len => cases hc; obtain ⟨_, ad, cap, rfl, _⟩ := hr; exact one rfl
  | rp kn o n i j => cases hc; obtain ⟨_, rfl⟩ := hr; exact one rfl
  | rw es d => cases hc
  | fn f c d => cases hc; obtain ⟨_, _, rfl, _⟩ := hr; exact one rfl
theorem rel_leaf {kn : Bool} : ∀ {s : Sh} {v : Value} {d : D}, LF E.Z s v d → Rel E (leaf kn s d) v ∧ v.oneCell' = true
  | .int _, _, _, rfl => ⟨⟨rfl, rfl⟩, rfl⟩
  | .bool, _, _, rfl => ⟨⟨rfl, rfl⟩, rfl⟩
  | .str, _, _, rfl => ⟨⟨rfl, rfl⟩, rfl⟩
  | .sl es, v, d, h => ⟨⟨h, trivial⟩, by obtain ⟨_, _, _, rfl, _⟩ := h; rfl⟩
theorem el_leaves {kn : Bool} : ∀ {es : List Sh} {b o : Nat} {d : D} {j : Nat}, EL E.Z es b o d j → ∃ vs : List Value, vs.length = es.length ∧ (∀ i v, vs[i]? = some v → E.Z b (o + i) = some v) ∧ RelL E (leaves kn es d j) vs ∧ ∀ u ∈ vs, u.oneCell' = true
  | [], _, _, _, _, _ => ⟨[], rfl, by simp, rfl, by simp⟩
  | s :: es, b, o, d, j, ⟨⟨v, hz, hl⟩, h⟩ => by
    obtain ⟨vs, h1, h2, h3, h4⟩ := el_leaves (kn := kn) h
    obtain ⟨g1, g2⟩ := rel_leaf (kn := kn) hl
    refine ⟨v :: vs, by simp [h1], fun i u hu => ?_, ⟨v, vs, rfl, g1, h3⟩, by simpa using ⟨g2, h4⟩⟩
    cases i with
    | zero => simp at hu; subst hu; exact hz
    | succ i => have := h2 i u (by simpa using hu); rwa [show o + (i + 1) = o + 1 + i by omega]
theorem el_take {Z : Nat → Nat → Option Value} : ∀ (n : Nat) {es : List Sh} {b o : Nat} {d : D} {j : Nat}, EL Z es b o d j → EL Z (es.take n) b o d j
  | 0, _, _, _, _, _, _ => by simp [EL]
  | n + 1, [], _, _, _, _, _ => by simp [EL]
  | n + 1, s :: es, _, _, _, _, ⟨h1, h2⟩ => by simp only [List.take_succ_cons]; exact ⟨h1, el_take n h2⟩
theorem el_drop {Z : Nat → Nat → Option Value} : ∀ (n : Nat) {es : List Sh} {b o : Nat} {d : D} {j : Nat}, EL Z es b o d j → EL Z (es.drop n) b (o + n) d (j + n)
  | 0, _, _, _, _, _, h => by simpa using h
  | n + 1, [], _, _, _, _, _ => by simp [EL]
  | n + 1, s :: es, b, o, d, j, ⟨_, h2⟩ => by
    have := el_drop n h2
    simp only [List.drop_succ_cons]
    rwa [show o + 1 + n = o + (n + 1) by omega, show j + 1 + n = j + (n + 1) by omega] at this

theorem sizeT_info {t : TypeId} {n : Nat} (hs : sizeT P t = some n) : ∃ i, P.info? t = some i ∧ i.size = n := by
  unfold sizeT at hs
  cases hi : P.info? t with
  | none => rw [hi] at hs; cases hs
  | some i => rw [hi] at hs; exact ⟨i, rfl, Option.some.inj hs⟩
theorem run_sizeOf {t : TypeId} {n : Nat} (hs : sizeT P t = some n) : (sizeOf t).run P w = .ok n w := by
  obtain ⟨i, hi, rfl⟩ := sizeT_info hs
  simp [sizeOf, typeInfo, hi]
theorem addr_add' (b o n : Nat) : (⟨b, o, none⟩ : Addr).add n = ⟨b, o + n, none⟩ := by unfold Addr.add; split <;> simp_all

theorem re_leaves {kn : Bool} {cs : Array Value} : ∀ {es : List Sh} {p : Nat} {d : D} {j : Nat}, RE E.Z es cs p d j → ∃ vs : List Value, vs.length = es.length ∧ (∀ i v, vs[i]? = some v → cs[p + i]? = some v) ∧ RelL E (leaves kn es d j) vs ∧ ∀ u ∈ vs, u.oneCell' = true
  | [], _, _, _, _ => ⟨[], rfl, by simp, rfl, by simp⟩
  | s :: es, p, d, j, ⟨⟨v, hz, hl⟩, h⟩ => by
    obtain ⟨vs, h1, h2, h3, h4⟩ := re_leaves (kn := kn) h
    obtain ⟨g1, g2⟩ := rel_leaf (kn := kn) hl
    refine ⟨v :: vs, by simp [h1], fun i u hu => ?_, ⟨v, vs, rfl, g1, h3⟩, by simpa using ⟨g2, h4⟩⟩
    cases i with
    | zero => simp at hu; subst hu; exact hz
    | succ i => have := h2 i u (by simpa using hu); rwa [show p + (i + 1) = p + 1 + i by omega]
theorem re_take {Z : Nat → Nat → Option Value} {cs : Array Value} : ∀ (n : Nat) {es : List Sh} {p : Nat} {d : D} {j : Nat}, RE Z es cs p d j → RE Z (es.take n) cs p d j
  | 0, _, _, _, _, _ => by simp [RE]
  | n + 1, [], _, _, _, _ => by simp [RE]
  | n + 1, s :: es, _, _, _, ⟨h1, h2⟩ => by simp only [List.take_succ_cons]; exact ⟨h1, re_take n h2⟩
theorem re_drop {Z : Nat → Nat → Option Value} {cs : Array Value} : ∀ (n : Nat) {es : List Sh} {p : Nat} {d : D} {j : Nat}, RE Z es cs p d j → RE Z (es.drop n) cs (p + n) d (j + n)
  | 0, _, _, _, _, h => by simpa using h
  | n + 1, [], _, _, _, _ => by simp [RE]
  | n + 1, s :: es, p, d, j, ⟨_, h2⟩ => by
    have := re_drop n h2
    simp only [List.drop_succ_cons]
    rwa [show p + 1 + n = p + (n + 1) by omega, show j + 1 + n = j + (n + 1) by omega] at this
/-- a row's block -/
theorem row_ob (I : Inv P w0 G E h w) {o : Nat} {es : List Sh} {d : D} (H : rowOf o h = some (es, d)) : lookO o h.ob = some [.rw es d] ∧ ∃ cs t, w.heap[E.β o]? = some (.cells cs t (0, 0)) ∧ d.len * szB es ≤ room ∧ ∀ i, i < d.len → RE E.Z es cs (i * es.length) (d.get i) 0 := by
  unfold rowOf at H
  split at H
  · rename_i es' d' hl
    cases H
    refine ⟨hl, ?_⟩
    obtain ⟨vs, ob, hb, hr, hok⟩ := I.ob o _ hl
    obtain ⟨v, vs', rfl, ⟨h0, cs, rfl, h2⟩, h3⟩ := hr
    have h3 : vs' = [] := h3
    subst h3
    rcases hok with ⟨t, _, h1⟩ | ⟨_, _, _, h1⟩ | ⟨cs', t, h1, h4⟩
    · have := h1 _ List.mem_cons_self; cases this
    · cases h1
    · cases h4
      exact ⟨cs, t, h1 ▸ hb, h0, h2⟩
  · cases H

/-- a row of values in immutable cells -/
theorem z_range (I : Inv P w0 G E h w) {b o : Nat} {vs : List Value} (hz : ∀ i v, vs[i]? = some v → E.Z b (o + i) = some v) : w.rangeAt b o vs := fun j v hv => I.z _ _ _ (hz j v hv)

/-- a world in which what is read is as it is in w -/
def Sees (E : Env) (x : AV) (w W : World) : Prop := (∀ b j v, E.Z b j = some v → W.cell? ⟨b, j, none⟩ = some v) ∧ ∀ o, tgt x = some o → W.heap[E.β o]? = w.heap[E.β o]?
theorem Inv.sees (I : Inv P w0 G E h w) (x : AV) : Sees E x w w := ⟨I.z, fun _ _ => rfl⟩
theorem loadA_ok {K : AV → Prop} {t : TypeId} {x : AV} {v : Value} (H : (loadA P t x h).holds K) (I : Inv P w0 G E h w) (hx : Rel E x v) :
    ∃ av u, K av ∧ (∀ W, Sees E x w W → (Instr.loadAt t v).run P W = .ok u W) ∧ Rel E av u := by
  unfold loadA at H
  split at H
  · exact H.elim
  rename_i n hn
  cases hu : P.underlying t with
  | none => simp only [hu] at H; exact H.elim
  | some d =>
    simp only [hu] at H
    split at H
    · -- a variable
      rename_i o off
      obtain ⟨hlive, rfl⟩ := hx
      split at H
      · exact H.elim
      rename_i cs hcs
      cases hvar : isVar cs
      · rw [hvar] at H; exact H.elim
      rw [hvar] at H
      simp only [cond_true] at H
      obtain ⟨vs, ob, hb, hrel, hok⟩ := I.ob o cs hcs
      obtain ⟨ty, rfl, h1⟩ := ob_cells hvar hrel hok
      have hcell : ∀ W, Sees E (.ptr o off) w W → ∀ j, W.cell? ⟨E.β o, j, none⟩ = vs[j]? := fun W hW j => by rw [cell_of_row W _ j _ _ _ ((hW.2 o rfl).trans hb)]; simp
      cases hr : d.isRow
      · simp only [hr, cond_false] at H
        split at H
        · rename_i y hy
          obtain ⟨u, hu', hru⟩ := RelL.get hrel hy
          refine ⟨y, u, H, fun W hW => ?_, hru⟩
          have hag : (isAgg t).run P W = .ok false W := by
            unfold isAgg
            simp only [Sem.run_bind, run_underlying hu, Result.andThen_ok]
            cases d <;> first | rfl | simp [TypeDesc.isRow] at hr
          simp [Instr.loadAt, Instr.sureAddr, loadVar, hag, hcell W hW, hu']
        · exact H.elim
      · simp only [hr, cond_true] at H
        cases hle : Nat.ble (off + n) cs.length
        · rw [hle] at H; exact H.elim
        · rw [hle] at H
          have hle' := Nat.le_of_ble_eq_true hle
          have hlen : vs.length = cs.length := hrel.length.symm
          refine ⟨_, .agg ((vs.drop off).take n).toArray, H, fun W hW => ?_, ⟨_, rfl, by simpa using (hrel.drop off).take n, fun u hu' => h1 u (List.mem_of_mem_drop (List.mem_of_mem_take (by simpa using hu')))⟩⟩
          have hrow : W.rangeAt (E.β o) off ((vs.drop off).take n) := fun j u hu' => by
            rw [hcell W hW]
            rw [List.getElem?_take] at hu'
            split at hu'
            · rwa [List.getElem?_drop] at hu'
            · cases hu'
          have hsz : (P.info? t).map (·.size) = some ((vs.drop off).take n).length := by
            obtain ⟨i, hi, hi2⟩ := sizeT_info hn
            rw [hi]; simp [hi2]; omega
          have := run_loadVar_mid (P := P) W (E.β o) off t _ d hrow hu hr hsz
          simp [Instr.loadAt, Instr.sureAddr, this]
    · -- an element
      rename_i kn es d' j
      obtain ⟨b, o, rfl, hel⟩ := hx
      cases hr : d.isRow
      · simp only [hr, cond_false] at H
        split at H
        · rename_i s es'
          obtain ⟨⟨u, hz, hl⟩, _⟩ := hel
          obtain ⟨g1, g2⟩ := rel_leaf (kn := kn) hl
          refine ⟨_, u, H, fun W hW => ?_, g1⟩
          have hl := hW.1 _ _ _ hz
          have hag : (isAgg t).run P W = .ok false W := by
            unfold isAgg
            simp only [Sem.run_bind, run_underlying hu, Result.andThen_ok]
            cases d <;> first | rfl | simp [TypeDesc.isRow] at hr
          simp [Instr.loadAt, Instr.sureAddr, loadVar, hag, hl]
        · exact H.elim
      · simp only [hr, cond_true] at H
        cases hle : Nat.ble n es.length
        · rw [hle] at H; exact H.elim
        · rw [hle] at H
          have hle' := Nat.le_of_ble_eq_true hle
          obtain ⟨vs, g1, g2, g3, g4⟩ := el_leaves (kn := kn) (el_take n hel)
          refine ⟨_, .agg vs.toArray, H, fun W hW => ?_, ⟨_, rfl, by simpa using g3, by simpa using g4⟩⟩
          have hsz : (P.info? t).map (·.size) = some vs.length := by
            obtain ⟨i, hi, hi2⟩ := sizeT_info hn
            rw [hi, g1]; simp [hi2]; omega
          have := run_loadVar_mid (P := P) W b o t _ d (fun j v hv => hW.1 _ _ _ (g2 j v hv)) hu hr hsz
          simp [Instr.loadAt, Instr.sureAddr, this]
    · -- an element of a row
      rename_i kn o m i j
      obtain ⟨hlive, rfl⟩ := hx
      split at H
      · rename_i es d' hrow
        obtain ⟨hlk, cs, ty, hb, _, hre⟩ := row_ob I hrow
        cases hm : Nat.beq m es.length
        · rw [hm] at H; exact H.elim
        rw [hm] at H
        obtain rfl := Nat.eq_of_beq_eq_true hm
        obtain ⟨hc, H⟩ := need_holds H
        have hc := of_decide_eq_true hc
        have hre := hre i hc
        have hcell : ∀ W, Sees E (.rp kn o es.length i j) w W → ∀ q, W.cell? ⟨E.β o, q, none⟩ = cs[q]? := fun W hW q => by
          have hb' : W.heap[E.β o]? = some (.cells cs.toList.toArray ty (0, 0)) := (hW.2 o rfl).trans (by simpa using hb)
          rw [cell_of_row W _ q _ _ _ hb']
        cases hr : d.isRow
        · simp only [hr, cond_false] at H
          split at H
          · rename_i s es' hes
            have hel := re_drop j hre
            rw [hes, Nat.zero_add] at hel
            obtain ⟨⟨u, hz, hl⟩, _⟩ := hel
            obtain ⟨g1, g2⟩ := rel_leaf (kn := kn) hl
            refine ⟨_, u, H, fun W hW => ?_, g1⟩
            have hl := (hcell W hW _).trans hz
            have hag : (isAgg t).run P W = .ok false W := by
              unfold isAgg
              simp only [Sem.run_bind, run_underlying hu, Result.andThen_ok]
              cases d <;> first | rfl | simp [TypeDesc.isRow] at hr
            simp [Instr.loadAt, Instr.sureAddr, loadVar, hag, hl]
          · exact H.elim
        · simp only [hr, cond_true] at H
          cases hle : Nat.ble (j + n) es.length
          · rw [hle] at H; exact H.elim
          · rw [hle] at H
            have hle' := Nat.le_of_ble_eq_true hle
            obtain ⟨vs, g1, g2, g3, g4⟩ := re_leaves (kn := kn) (re_take n (re_drop j hre))
            rw [Nat.zero_add] at g3
            refine ⟨_, .agg vs.toArray, H, fun W hW => ?_, ⟨_, rfl, by simpa using g3, by simpa using g4⟩⟩
            have hsz : (P.info? t).map (·.size) = some vs.length := by
              obtain ⟨i, hi, hi2⟩ := sizeT_info hn
              rw [hi, g1]; simp [hi2]; omega
            have := run_loadVar_mid (P := P) W (E.β o) (i * es.length + j) t _ d (fun q v hv => (hcell W hW _).trans (g2 q v hv)) hu hr hsz
            simp [Instr.loadAt, Instr.sureAddr, this]
      · exact H.elim
    · exact H.elim

theorem fieldAddrA_ok {K : AV → Prop} {s : TypeId} {x : AV} {f : Nat} {v : Value} (H : (fieldAddrA P s x f).holds K) (hx : Rel E x v) :
    ∃ av u, K av ∧ (∀ w, (Instr.fieldAt s v f).run P w = .ok u w) ∧ Rel E av u := by
  unfold fieldAddrA at H
  split at H
  · rename_i fs hu
    split at H
    · rename_i fd hf
      split at H
      · rename_i n hn
        have hn0 : ¬ n + 1 = 0 := by omega
        have key : ∀ b o w, (Instr.fieldAt s (.pointer (some ⟨b, o, none⟩)) f).run P w = .ok (.pointer (some ⟨b, o + fd.offset, none⟩)) w := fun b o w => by
          simp [Instr.fieldAt, run_underlying hu, hf, Instr.sureAddr, fieldPlace, run_sizeOf hn, addr_add']
        split at H
        · rename_i o off
          obtain ⟨h1, rfl⟩ := hx
          exact ⟨_, _, H, key _ _, h1, rfl⟩
        · rename_i kn es d j
          obtain ⟨b, o, rfl, h1⟩ := hx
          cases hle : Nat.ble fd.offset es.length
          · rw [hle] at H; exact H.elim
          · rw [hle] at H
            exact ⟨_, _, H, key _ _, b, _, rfl, el_drop _ h1⟩
        · rename_i kn o m i j
          obtain ⟨h1, rfl⟩ := hx
          exact ⟨_, _, H, key _ _, h1, by rw [Nat.add_assoc]⟩
        · exact H.elim
      · exact H.elim
    · exact H.elim
  · exact H.elim
end
end
end Go.Proofs.YtcambhbmobepjaaGreat

namespace Go.Proofs.YtcambhbmobepjaaGreat
set_option linter.unusedSimpArgs false
set_option linter.unusedVariables false
open Go.RowKit
set_option maxRecDepth 10000
noncomputable section
section
variable {P : Program} {E : Env} {F : Tm} {h : Hp} {w w0 : World} {G : Nat → Prop} {a : Act}

theorem rel_int {kn : Bool} {k : IntKind} {n : Int} {v : Value} (h : Rel E (.sc kn (.int k n)) v) : v = .int k n := h.1
theorem rel_scb {kn : Bool} {b : Bool} {v : Value} (h : Rel E (.sc kn (.bool b)) v) : v = .bool b := h.1

theorem indexAddrA_ok {K : AV → Prop} {t : TypeId} {x i : AV} {v iv : Value} (H : (indexAddrA P t x i).holds K) (hx : Rel E x v) (hi : Rel E i iv) :
    ∃ av u, K av ∧ (∀ w, (Instr.indexAt t v iv).run P w = .ok u w) ∧ Rel E av u := by
  unfold indexAddrA at H
  split at H
  · rename_i e kn es d tip k2 ik n hu
    obtain ⟨⟨_, ad, cap, rfl, h1, h2, h3, h4⟩, _⟩ := hx
    obtain rfl := rel_int hi
    split at H
    · rename_i m hm
      cases hb : Nat.beq m es.length
      · rw [hb] at H; exact H.elim
      · rw [hb] at H
        obtain rfl := Nat.eq_of_beq_eq_true hb
        obtain ⟨hc, H⟩ := need_holds H
        obtain ⟨hn0, hn1⟩ : 0 ≤ n ∧ n < (d.len : Int) := of_decide_eq_true hc
        obtain ⟨b, o, rfl, h5⟩ := h4 (by omega)
        refine ⟨_, .pointer (some ⟨b, o + n.toNat * es.length, none⟩), H, fun w => ?_, b, _, rfl, h5 n.toNat (by omega)⟩
        simp [Instr.indexAt, asIntOf, run_underlying hu, hn0, hn1, run_sizeOf hm, addr_add']
    · exact H.elim
  · obtain ⟨hc, _⟩ := need_holds H; cases hc
  · rename_i e kn o m len k2 ik n hu
    obtain ⟨hl, ad, cap, rfl, h1, h2, h3, h4⟩ := hx
    obtain rfl := rel_int hi
    split at H
    · rename_i k hk
      cases hb : Nat.beq k m
      · rw [hb] at H; exact H.elim
      · rw [hb] at H
        obtain rfl := Nat.eq_of_beq_eq_true hb
        obtain ⟨hc, H⟩ := need_holds H
        obtain ⟨hn0, hn1⟩ : 0 ≤ n ∧ n < (len : Int) := of_decide_eq_true hc
        obtain rfl := h4 (by omega)
        refine ⟨_, .pointer (some ⟨E.β o, n.toNat * k, none⟩), H, fun w => ?_, hl, by simp⟩
        simp [Instr.indexAt, asIntOf, run_underlying hu, hn0, hn1, run_sizeOf hk, addr_add']
    · exact H.elim
  · rename_i m e o off ik n hu
    obtain ⟨hl, rfl⟩ := hx
    obtain rfl := rel_int hi
    split at H
    · rename_i k hk
      cases hc : decide (0 ≤ n ∧ n < (m : Int))
      · rw [hc] at H; exact H.elim
      · rw [hc] at H
        obtain ⟨hn0, hn1⟩ := of_decide_eq_true hc
        refine ⟨_, .pointer (some ⟨E.β o, off + n.toNat * k, none⟩), H, fun w => ?_, hl, rfl⟩
        simp [Instr.indexAt, asIntOf, run_underlying hu, Instr.sureAddr, hn0, hn1, run_sizeOf hk, addr_add']
    · exact H.elim
  · rename_i m e kn es d j ik n hu
    obtain ⟨b, o, rfl, h1⟩ := hx
    obtain rfl := rel_int hi
    split at H
    · rename_i k hk
      cases hc : decide (0 ≤ n ∧ n < (m : Int)) && Nat.ble (n.toNat * k) es.length
      · rw [hc] at H; exact H.elim
      · rw [hc] at H
        simp only [Bool.and_eq_true] at hc
        obtain ⟨hn0, hn1⟩ := of_decide_eq_true hc.1
        refine ⟨_, .pointer (some ⟨b, o + n.toNat * k, none⟩), H, fun w => ?_, b, _, rfl, el_drop _ h1⟩
        simp [Instr.indexAt, asIntOf, run_underlying hu, Instr.sureAddr, hn0, hn1, run_sizeOf hk, addr_add']
    · exact H.elim
  · exact H.elim

theorem asSl_ok {es0 : List Sh} {x : AV} {kn : Bool} {es : List Sh} {d : D} {v : Value} (hs : asSl es0 x = some (kn, es, d)) (hx : Rel E x v) : LF E.Z (.sl es) v d := by
  unfold asSl at hs
  split at hs
  · cases hs; exact hx.1
  · cases hs
    obtain ⟨rfl, _⟩ := hx
    exact ⟨by simp [D.len, D.toL, D.raw], none, 0, rfl, Nat.le_refl _, Nat.zero_le _, fun _ => rfl, fun hn => absurd (by simp [D.len, D.toL, D.raw]) hn⟩
  · cases hs
theorem toL_sub {d : D} {l u : Nat} : (d.sub l u).toL = (d.toL.take u).drop l := by
  have h1 : ((d.toL.take u).drop l).length ≤ maxLen := by
    have := d.len_le; unfold D.len at this
    simp only [List.length_drop, List.length_take]; omega
  show List.take maxLen _ = _
  exact List.take_of_length_le h1
theorem boundA_ok {dflt : Int} {x : Option AV} {v : Option Value} {k : Bool} {n : Int} (hb : boundA dflt x = some (k, n)) (hr : ∀ y, x = some y → ∃ u, v = some u ∧ Rel E y u) (hn : x = none → v = none) :
    (x = none ∧ v = none ∧ n = dflt) ∨ ∃ ik, v = some (.int ik n) := by
  unfold boundA at hb
  split at hb
  · cases hb; exact .inl ⟨rfl, hn rfl, rfl⟩
  · cases hb
    obtain ⟨u, rfl, h1⟩ := hr _ rfl
    exact .inr ⟨_, by rw [rel_int h1]⟩
  · cases hb
theorem run_sliceBound {ik : IntKind} {n : Int} {y : Nat} {c : BoundsCode} (h0 : 0 ≤ n) (h1 : n ≤ y) : (Instr.sliceBound (.int ik n) y c).run P w = .ok n.toNat w := by
  simp [Instr.sliceBound, asIntOf, h0, h1]
theorem sliceA_ok {K : AV → Prop} {t : TypeId} {x : AV} {v : Value} {lo hi : Option Operand} {mx : Option Operand} (hT : RelT E F a) (H : (sliceA P t x (lo.map (opnd F)) (hi.map (opnd F)) (mx.map (opnd F))).holds K) (hx : Rel E x v) :
    ∃ av u, K av ∧ (∀ w, (Instr.sliceAt t v (lo.map a.eval) (hi.map a.eval) (mx.map a.eval)).run P w = .ok u w) ∧ Rel E av u := by
  unfold sliceA at H
  split at H
  · rename_i e hel
    have hu : P.underlying t = some (.slice e) := by
      unfold elemA at hel
      split at hel
      · cases hel; assumption
      · cases hel
    split at H
    · rename_i kn es d n hs hn
      split at H
      · rename_i k1 l k2 u k3 m hb1 hb2 hb3
        cases hb : Nat.beq n es.length && ((mx.map (opnd F)).isNone || (hi.map (opnd F)).isSome)
        · rw [hb] at H; exact H.elim
        · rw [hb] at H
          simp only [Bool.and_eq_true] at hb
          obtain rfl := Nat.eq_of_beq_eq_true hb.1
          have hmh : mx = none ∨ ∃ o, hi = some o := by
            have := hb.2
            cases mx with
            | none => exact .inl rfl
            | some _ => cases hi with
              | none => simp at this
              | some o => exact .inr ⟨o, rfl⟩
          obtain ⟨hc, H⟩ := need_holds H
          obtain ⟨h0, h1, h2', h2⟩ : 0 ≤ l ∧ l ≤ u ∧ u ≤ m ∧ m ≤ (d.len : Int) := of_decide_eq_true hc
          obtain ⟨g0, ad, cap, rfl, g1, g2, g3, g4⟩ := asSl_ok hs hx
          have rl : ∀ z y, (z : Option Operand).map (opnd F) = some y → ∃ u, z.map a.eval = some u ∧ Rel E y u := fun z y hy => by
            cases z with
            | none => cases hy
            | some o => cases hy; exact ⟨_, rfl, rel_opnd hT o⟩
          -- the greatest bound
          obtain ⟨M, hM, hMu, hMc⟩ : ∃ M : Nat, (∀ w c, ((match mx.map a.eval with | some v => Instr.sliceBound v cap c | none => pure cap) : Sem Nat).run P w = .ok M w) ∧ u ≤ M ∧ M ≤ cap := by
            rcases boundA_ok hb3 (rl mx) (fun hh => by cases mx <;> simp_all) with ⟨_, hv, rfl⟩ | ⟨ik, hv⟩
            · exact ⟨cap, fun w c => by rw [hv]; simp, by omega, Nat.le_refl _⟩
            · exact ⟨m.toNat, fun w c => by rw [hv]; exact run_sliceBound (by omega) (by omega), by omega, by omega⟩
          have hhi : ∀ w c, ((match hi.map a.eval with | some v => Instr.sliceBound v M c | none => pure d.len) : Sem Nat).run P w = .ok u.toNat w := fun w c => by
            rcases boundA_ok hb2 (rl hi) (fun hh => by cases hi <;> simp_all) with ⟨_, hv, rfl⟩ | ⟨ik, hv⟩
            · rw [hv]; simp
            · rw [hv]; exact run_sliceBound (by omega) (by omega)
          have hlo : ∀ w c, ((match lo.map a.eval with | some v => Instr.sliceBound v u.toNat c | none => pure 0) : Sem Nat).run P w = .ok l.toNat w := fun w c => by
            rcases boundA_ok hb1 (rl lo) (fun hh => by cases lo <;> simp_all) with ⟨_, hv, rfl⟩ | ⟨ik, hv⟩
            · rw [hv]; simp
            · rw [hv]; exact run_sliceBound (by omega) (by omega)
          have hlen : (d.sub l.toNat u.toNat).len = u.toNat - l.toNat := by
            have h5 : u.toNat ≤ d.toL.length := by unfold D.len at h2; omega
            unfold D.len; rw [toL_sub]; simp only [List.length_drop, List.length_take]; omega
          refine ⟨_, .slice (if M = l.toNat then ad else ad.map (·.add (l.toNat * es.length))) (u.toNat - l.toNat) (M - l.toNat), H, fun w => ?_, ⟨by rw [hlen]; exact Nat.le_trans (Nat.mul_le_mul_right _ (by omega)) g0, _, _, by rw [hlen], by omega, by omega, ?_, ?_⟩, trivial⟩
          · have hsb : (Instr.sliceBounds true d.len cap (lo.map a.eval) (hi.map a.eval) (mx.map a.eval)).run P w = .ok (l.toNat, u.toNat, M) w := by
              unfold Instr.sliceBounds
              have e1 := hhi w .sliceAcap
              have e1' := hhi w .slice3B
              have e2 := hlo w .sliceB
              have e2' := hlo w .slice3C
              have e3 := hM w .slice3Acap
              rcases hmh with rfl | ⟨o, rfl⟩
              · cases lo <;> cases hi <;> simp_all
              · cases lo <;> cases mx <;> simp_all
            unfold Instr.sliceAt
            simp only [Sem.run_bind, run_underlying hu, Result.andThen_ok, Instr.slice, hsb, run_sizeOf hn]
            rfl
          · intro hh
            split at hh
            · have := g3 hh; omega
            · cases ad with
              | none => have := g3 rfl; omega
              | some _ => cases hh
          · intro hne
            rw [hlen] at hne
            obtain ⟨b, o, rfl, g5⟩ := g4 (by omega)
            rw [if_neg (by omega)]
            refine ⟨b, o + l.toNat * es.length, by simp [addr_add'], fun i hi => ?_⟩
            rw [hlen] at hi
            have := g5 (l.toNat + i) (by omega)
            rw [show o + l.toNat * es.length + i * es.length = o + (l.toNat + i) * es.length by rw [Nat.add_mul, Nat.add_assoc]]
            have hg : (d.sub l.toNat u.toNat).get i = d.get (l.toNat + i) := by
              unfold D.get
              rw [toL_sub, List.getD_eq_getElem?_getD, List.getD_eq_getElem?_getD, List.getElem?_drop, List.getElem?_take_of_lt (by omega)]
            rw [hg]; exact this
      · exact H.elim
    · exact H.elim
  · exact H.elim

theorem lenA_ok {K : AV → Prop} {t ty : TypeId} {x : AV} {v : Value} (H : (lenA P t x).holds K) (hx : Rel E x v) :
    ∃ av u, K av ∧ (∀ w, (Builtin.len_ #[t] ty #[v]).run P w = .ok u w) ∧ Rel E av u := by
  unfold lenA at H
  split at H
  · rename_i hu
    obtain ⟨⟨_, ad, cap, rfl, _⟩, _⟩ := hx
    exact ⟨_, _, H, fun w => by simp [Builtin.len_, run_underlying hu]; rfl, rfl, rfl⟩
  · rename_i hu
    obtain ⟨rfl, _⟩ := hx
    exact ⟨_, _, H, fun w => by simp [Builtin.len_, run_underlying hu]; rfl, rfl, rfl⟩
  · rename_i hu
    obtain ⟨_, ad, cap, rfl, _⟩ := hx
    exact ⟨_, _, H, fun w => by simp [Builtin.len_, run_underlying hu]; rfl, rfl, rfl⟩
  · rename_i hu
    obtain ⟨rfl, _⟩ := hx
    exact ⟨_, _, H, fun w => by simp [Builtin.len_, run_underlying hu]; rfl, rfl, rfl⟩
  · rename_i hu
    exact ⟨_, _, H, fun w => by simp [Builtin.len_, run_underlying hu]; rfl, rfl, rfl⟩
  · exact H.elim

theorem intOp_ok {K : AV → Prop} {op : BinOp} {k : IntKind} {kn : Bool} {x y : Int} (t : TypeId) (hsh : op ≠ .shl ∧ op ≠ .shr) (H : (intOp op k kn x y).holds K) :
    ∃ av u, K av ∧ (∀ w, (binOp op t (.int k x) (.int k y)).run P w = .ok u w) ∧ Rel E av u := by
  cases op <;> simp only [intOp] at H
  case shl => exact absurd rfl hsh.1
  case shr => exact absurd rfl hsh.2
  case quo =>
    obtain ⟨hc, H⟩ := need_holds H
    have hy : ¬ y = 0 := by simpa using hc
    exact ⟨_, _, H, fun w => by simp [binOp, Op.intDiv, hy], rfl, rfl⟩
  case rem =>
    obtain ⟨hc, H⟩ := need_holds H
    have hy : ¬ y = 0 := by simpa using hc
    exact ⟨_, _, H, fun w => by simp [binOp, Op.intDiv, hy], rfl, rfl⟩
  all_goals first
    | exact H.elim
    | exact ⟨_, _, H, fun w => by simp [binOp, Op.intArith, Op.intBits, Op.intCmp]; rfl, rfl, rfl⟩
    | exact ⟨_, _, H, fun w => by simp [binOp, Op.intArith, Op.intBits, Op.intCmp], rfl, rfl⟩
theorem strOp_ok {K : AV → Prop} {op : BinOp} {kn : Bool} {x y : ByteArray} (t : TypeId) (H : (strOp op kn x y).holds K) :
    ∃ av u, K av ∧ (∀ w, (binOp op t (.string x) (.string y)).run P w = .ok u w) ∧ Rel E av u := by
  cases op <;> simp only [strOp] at H
  case add =>
    obtain ⟨hc, H⟩ := need_holds H
    have hc' : x.size + y.size ≤ maxLen := of_decide_eq_true hc
    refine ⟨_, _, H, fun w => ?_, rfl, rfl⟩
    have h0 : IntKind.i64.max = 9223372036854775807 := by decide
    have : ¬ (((x.size + y.size : Nat) : Int) > IntKind.i64.max) := by
      rw [h0]; unfold maxLen at hc'; omega
    simp only [binOp, Op.stringOp]
    rw [if_neg this]
    rfl
  all_goals first
    | exact H.elim
    | exact ⟨_, _, H, fun w => by simp [binOp, Op.stringOp]; rfl, rfl, rfl⟩
    | exact ⟨_, _, H, fun w => by simp [binOp, Op.stringOp], rfl, rfl⟩

theorem run_guard_sc {op : BinOp} {t : TypeId} {x y : Operand} {p q : Value} (hp : (∀ cs, p ≠ .agg cs) ∧ p ≠ .nilIface) : (eqGuard op t x y p q).run P w = .ok () w := by
  unfold eqGuard
  cases op <;> simp
  all_goals
    cases p <;> first
      | exact absurd rfl (hp.1 _)
      | exact absurd rfl hp.2
      | (cases q <;> simp)
theorem run_equal_bool {t : TypeId} (hu : P.underlying t = some .bool) (x y : Bool) : (Op.equal t (.bool x) (.bool y)).run P w = .ok (x == y) w := by
  unfold Op.equal Op.maxDepth
  rw [Op.equalIn]
  simp [run_underlying hu]
theorem run_equal_nilf {t : TypeId} {p r : Array TypeId} {b : Bool} (hu : P.underlying t = some (.func p r b)) : (Op.equal t .nilFunc .nilFunc).run P w = .ok true w := by
  unfold Op.equal Op.maxDepth
  rw [Op.equalIn]
  simp [run_underlying hu]
theorem run_equal_fn {t : TypeId} {p r : Array TypeId} {b : Bool} (hu : P.underlying t = some (.func p r b)) (f : Fn) (x y : Array Value) : (Op.equal t (.func f x y) .nilFunc).run P w = .ok false w := by
  unfold Op.equal Op.maxDepth
  rw [Op.equalIn]
  simp [run_underlying hu]
theorem run_equal_slice {t e : TypeId} (hu : P.underlying t = some (.slice e)) (ad : Option Addr) (n c : Nat) : (Op.equal t (.slice ad n c) (.slice none 0 0)).run P w = .ok ad.isNone w := by
  unfold Op.equal Op.maxDepth
  rw [Op.equalIn]
  cases ad <;> simp [run_underlying hu]
/-! What is the same. -/
theorem isAgg_row {t : TypeId} {td : TypeDesc} (hu : P.underlying t = some td) (W : World) : (isAgg t).run P W = .ok td.isRow W := by
  unfold isAgg
  simp only [Sem.run_bind, run_underlying hu, Result.andThen_ok]
  cases td <;> rfl
theorem partA_ok {t : TypeId} {cs : List AV} {off : Nat} {av : AV} {vs : Array Value} (H : partA P t cs off = some av) (hr : RelL E cs vs.toList) (h1 : ∀ u ∈ vs.toList, u.oneCell' = true) : ∃ v, Rel E av v ∧ ∀ w, (part t vs off).run P w = .ok v w := by
  unfold partA at H
  split at H
  · rename_i td n hu hn
    cases hrow : td.isRow
    · rw [hrow] at H
      obtain ⟨v, hv, hrel⟩ := hr.get H
      refine ⟨v, hrel, fun w => ?_⟩
      have hv' : vs[off]? = some v := by simpa using hv
      simp [part, isAgg_row hu, hrow, hv']
    · rw [hrow] at H
      cases H
      refine ⟨.agg (vs.extract off (off + n)), ⟨_, rfl, ?_, fun u hu' => ?_⟩, fun w => ?_⟩
      · have : (vs.extract off (off + n)).toList = (vs.toList.drop off).take n := by simp [List.take_drop]
        rw [this]; exact (hr.drop off).take n
      · have : (vs.extract off (off + n)).toList = (vs.toList.drop off).take n := by simp [List.take_drop]
        rw [this] at hu'
        exact h1 u (List.mem_of_mem_drop (List.mem_of_mem_take hu'))
      · simp [part, isAgg_row hu, hrow, run_sizeOf hn]
  · cases H
theorem bothB_snd (a b : Bool × Bool) : (bothB a b).2 = (a.2 && b.2) := by
  obtain ⟨a1, a2⟩ := a
  cases a1 <;> cases a2 <;> simp [bothB]
def EqAt (P : Program) (E : Env) (D : Nat) (eq : TypeId → AV → AV → Option (Bool × Bool)) : Prop := ∀ t x y r v u, eq t x y = some r → Rel E x v → Rel E y u → ∀ w, (Op.equalIn D t v u).run P w = .ok r.2 w
theorem eqFs_ok {D : Nat} {eq : TypeId → AV → AV → Option (Bool × Bool)} (he : EqAt P E D eq) {xs ys : List AV} {vs us : Array Value} (hx : RelL E xs vs.toList) (hy : RelL E ys us.toList) (hx1 : ∀ u ∈ vs.toList, u.oneCell' = true) (hy1 : ∀ u ∈ us.toList, u.oneCell' = true) (w : World) :
    ∀ (fs : List Field) (r : Bool × Bool), eqFs P eq xs ys fs = some r → (Op.eqFields D vs us fs).run P w = .ok r.2 w
  | [], r, H => by cases H; simp [Op.eqFields]
  | f :: fs, r, H => by
    simp only [eqFs] at H
    cases hn : decide (f.name = "_")
    · rw [hn] at H
      simp only [cond_false] at H
      split at H
      · rename_i a b ha hb
        split at H
        · rename_i p q hp hq
          cases H
          obtain ⟨v, hv, hvr⟩ := partA_ok ha hx hx1
          obtain ⟨u, hu, hur⟩ := partA_ok hb hy hy1
          have h1 := he f.type a b p v u hp hv hu w
          have h2 := eqFs_ok he hx hy hx1 hy1 w fs q hq
          rw [Op.eqFields, if_pos (of_decide_eq_false hn)]
          simp only [Sem.run_bind, hvr, hur, h1, Result.andThen_ok, bothB_snd]
          cases p.2 <;> simp [h2]
        · cases H
      · cases H
    · rw [hn] at H; cases H
theorem eqIs_ok {D : Nat} {e : TypeId} {eq : AV → AV → Option (Bool × Bool)} (he : ∀ x y r v u, eq x y = some r → Rel E x v → Rel E y u → ∀ w, (Op.equalIn D e v u).run P w = .ok r.2 w) {c : Nat} {xs ys : List AV} {vs us : Array Value} (hx : RelL E xs vs.toList) (hy : RelL E ys us.toList) (hx1 : ∀ u ∈ vs.toList, u.oneCell' = true) (hy1 : ∀ u ∈ us.toList, u.oneCell' = true) (w : World) :
    ∀ (is : List Nat) (r : Bool × Bool), eqIs P eq e c xs ys is = some r → (Op.eqItems D e c vs us is).run P w = .ok r.2 w
  | [], r, H => by cases H; simp [Op.eqItems]
  | i :: is, r, H => by
    simp only [eqIs] at H
    split at H
    · rename_i a b ha hb
      split at H
      · rename_i p q hp hq
        cases H
        obtain ⟨v, hv, hvr⟩ := partA_ok ha hx hx1
        obtain ⟨u, hu, hur⟩ := partA_ok hb hy hy1
        have h1 := he a b p v u hp hv hu w
        have h2 := eqIs_ok he hx hy hx1 hy1 w is q hq
        rw [Op.eqItems]
        simp only [Sem.run_bind, hvr, hur, h1, Result.andThen_ok, bothB_snd]
        cases p.2 <;> simp [h2]
      · cases H
    · cases H
theorem eqAV_ok : ∀ (n D : Nat), n ≤ D → EqAt P E D (eqAV P n)
  | 0, _, _ => fun t x y r v u H _ _ => by cases H
  | n + 1, 0, h => by omega
  | n + 1, D + 1, h => fun t x y r v u H hx hy w => by
    have ih := eqAV_ok n D (by omega)
    simp only [eqAV] at H
    split at H
    · rename_i kk k1 k a k2 k' b hu
      cases hk : decide (k = k')
      · rw [hk] at H; cases H
      · rw [hk] at H
        obtain rfl := of_decide_eq_true hk
        obtain rfl := rel_int hx
        obtain rfl := rel_int hy
        cases H
        exact run_equalIn_int w D t k kk a b hu
    · rename_i hu
      obtain ⟨rfl, _⟩ := hx
      obtain ⟨rfl, _⟩ := hy
      cases H
      exact run_equalIn_string w D t _ _ hu
    · rename_i hu
      obtain ⟨rfl, _⟩ := hx
      obtain ⟨rfl, _⟩ := hy
      cases H
      exact run_equalIn_bool' w D t _ _ hu
    · rename_i fs xs ys hu
      obtain ⟨vs, rfl, hx, hx1⟩ := hx
      obtain ⟨us, rfl, hy, hy1⟩ := hy
      cases hs : P.stoodInHeld t
      · rw [hs] at H
        have hf : P.fieldsOf t = fs := by unfold Program.fieldsOf; rw [hu]
        rw [run_equalIn_struct w D t vs us (by rw [hf]; exact hu) hs, hf]
        exact eqFs_ok ih hx hy hx1 hy1 w _ _ H
      · rw [hs] at H; cases H
    · rename_i m e xs ys hu
      obtain ⟨vs, rfl, hx, hx1⟩ := hx
      obtain ⟨us, rfl, hy, hy1⟩ := hy
      split at H
      · rename_i c hc
        obtain ⟨i, hi, hi2⟩ := sizeT_info hc
        have hco : P.cellsOf e = c := by unfold Program.cellsOf; rw [hi]; exact hi2
        rw [run_equalIn_array w D vs us hu hi, hco]
        exact eqIs_ok (fun x y r v u h => ih e x y r v u h) hx hy hx1 hy1 w _ _ H
      · cases H
    · cases H
theorem indexA_ok {K : AV → Prop} {t : TypeId} {x i : AV} {v iv : Value} (H : (indexA P t x i).holds K) (hx : Rel E x v) (hi : Rel E i iv) : ∃ av u, K av ∧ (∀ w, (Instr.index t v iv).run P w = .ok u w) ∧ Rel E av u := by
  unfold indexA at H
  split at H
  · rename_i m e cs kk n hu
    obtain ⟨vs, rfl, hx, hx1⟩ := hx
    obtain rfl := rel_int hi
    split at H
    · rename_i k hk
      cases hd : decide (0 ≤ n ∧ n < (m : Int))
      · rw [hd] at H; exact H.elim
      · rw [hd] at H
        simp only [cond_true] at H
        split at H
        · rename_i av hp
          obtain ⟨u, g1, g2⟩ := partA_ok hp hx hx1
          refine ⟨av, u, H, fun w => ?_, g1⟩
          simp only [Instr.index, asIntOf, Sem.run_bind, Sem.run_pure, Result.andThen_ok, run_underlying hu]
          rw [if_pos (of_decide_eq_true hd)]
          simp only [Sem.run_bind, run_sizeOf hk, Result.andThen_ok, g2]
        · exact H.elim
    · exact H.elim
  · rename_i k1 s k2 kk n hu
    obtain ⟨rfl, _⟩ := hx
    obtain rfl := rel_int hi
    obtain ⟨hc, H⟩ := need_holds H
    obtain ⟨h0, h1⟩ := of_decide_eq_true hc
    refine ⟨_, _, H, fun w => ?_, rfl, rfl⟩
    have hl : n.toNat < s.size := by omega
    have hg : s[n.toNat]? = some (s.data.getD n.toNat 0) := by
      rw [getElem?_pos s n.toNat hl]
      have hl' : n.toNat < s.data.size := hl
      unfold Array.getD
      rw [dif_pos hl']; rfl
    simp only [Instr.index, asIntOf, Sem.run_bind, Sem.run_pure, Result.andThen_ok, run_underlying hu]
    rw [if_pos h0, hg]
    rfl
  · exact H.elim
theorem fieldA_ok {K : AV → Prop} {t : TypeId} {x : AV} {f : Nat} {v : Value} (H : (fieldA P t x f).holds K) (hx : Rel E x v) : ∃ av u, K av ∧ (∀ w, (Instr.field t v f).run P w = .ok u w) ∧ Rel E av u := by
  unfold fieldA at H
  split at H
  · rename_i fs cs hu
    obtain ⟨vs, rfl, hx, hx1⟩ := hx
    split at H
    · rename_i fd hf
      split at H
      · rename_i av hp
        obtain ⟨u, g1, g2⟩ := partA_ok hp hx hx1
        refine ⟨av, u, H, fun w => ?_, g1⟩
        simp [Instr.field, run_underlying hu, hf, asAgg, g2]
      · exact H.elim
    · exact H.elim
  · exact H.elim
theorem binA_ok {K : AV → Prop} {op : BinOp} {t : TypeId} {x y : AV} {v u : Value} {ox oy : Operand} (H : (binA P op t x y).holds K) (hx : Rel E x v) (hy : Rel E y u) :
    ∃ av r, K av ∧ (∀ w, (do eqGuard op t ox oy v u; binOp op t v u : Sem Value).run P w = .ok r w) ∧ Rel E av r := by
  have fin : (∀ cs, v ≠ .agg cs) ∧ v ≠ .nilIface → (∃ av r, K av ∧ (∀ w, (binOp op t v u).run P w = .ok r w) ∧ Rel E av r) → ∃ av r, K av ∧ (∀ w, (do eqGuard op t ox oy v u; binOp op t v u : Sem Value).run P w = .ok r w) ∧ Rel E av r := by
    rintro hp ⟨av, r, h1, h2, h3⟩
    exact ⟨av, r, h1, fun w => by simp only [Sem.run_bind, run_guard_sc hp, Result.andThen_ok, h2], h3⟩
  unfold binA at H
  split at H
  · obtain rfl := rel_int hx
    obtain rfl := rel_int hy
    refine fin (by simp) ?_
    split at H
    · obtain ⟨hc, H⟩ := need_holds H
      have hc' := of_decide_eq_true hc
      refine ⟨_, _, H, fun w => ?_, rfl, rfl⟩
      simp only [binOp, Op.shift]
      rw [if_neg (by omega)]
      rfl
    · obtain ⟨hc, H⟩ := need_holds H
      have hc' := of_decide_eq_true hc
      refine ⟨_, _, H, fun w => ?_, rfl, rfl⟩
      simp only [binOp, Op.shift]
      rw [if_neg (by omega)]
      rfl
    · rename_i _ k p _ k' q _ h1 h2
      cases hk : decide (k = k')
      · rw [hk] at H; exact H.elim
      · rw [hk] at H
        obtain rfl := of_decide_eq_true hk
        exact intOp_ok t ⟨fun e => h1 e, fun e => h2 e⟩ H
  · obtain ⟨rfl, _⟩ := hx
    obtain ⟨rfl, _⟩ := hy
    exact fin (by simp) (strOp_ok t H)
  · obtain ⟨rfl, _⟩ := hx
    obtain ⟨rfl, _⟩ := hy
    refine fin (by simp) ?_
    split at H
    · rename_i hu
      split at H
      · exact ⟨_, _, H, fun w => by simp [binOp, run_equal_bool hu], rfl, rfl⟩
      · exact ⟨_, _, H, fun w => by simp [binOp, run_equal_bool hu], rfl, rfl⟩
      · exact H.elim
    · exact H.elim
  · obtain ⟨rfl, _⟩ := hx
    obtain ⟨rfl, _⟩ := hy
    refine fin (by simp) ?_
    split at H
    · rename_i hu
      exact ⟨_, _, H, fun w => by simp [binOp, run_equal_nilf hu], rfl, rfl⟩
    · rename_i hu
      exact ⟨_, _, H, fun w => by simp [binOp, run_equal_nilf hu], rfl, rfl⟩
    · exact H.elim
  · rename_i kn es d tip _
    obtain ⟨⟨_, ad, cap, rfl, g1, g2, g3, g4⟩, _⟩ := hx
    obtain ⟨rfl, _⟩ := hy
    refine fin (by simp) ?_
    have hnn : d.len ≠ 0 → ad.isNone = false := fun h0 => by
      obtain ⟨b, o, rfl, _⟩ := g4 h0
      rfl
    split at H
    · rename_i hu
      rcases brk_holds H with ⟨_, H⟩ | ⟨h0, H⟩
      · cases hb : ad.isNone
        · exact ⟨_, .bool false, H.2, fun w => by simp [binOp, run_equal_slice hu, hb], rfl, rfl⟩
        · exact ⟨_, .bool true, H.1, fun w => by simp [binOp, run_equal_slice hu, hb], rfl, rfl⟩
      · have hb := hnn (of_decide_eq_false h0)
        exact ⟨_, .bool false, H, fun w => by simp [binOp, run_equal_slice hu, hb], rfl, rfl⟩
    · rename_i hu
      rcases brk_holds H with ⟨_, H⟩ | ⟨h0, H⟩
      · cases hb : ad.isNone
        · exact ⟨_, .bool true, H.2, fun w => by simp [binOp, run_equal_slice hu, hb], rfl, rfl⟩
        · exact ⟨_, .bool false, H.1, fun w => by simp [binOp, run_equal_slice hu, hb], rfl, rfl⟩
      · have hb := hnn (of_decide_eq_false h0)
        exact ⟨_, .bool true, H, fun w => by simp [binOp, run_equal_slice hu, hb], rfl, rfl⟩
    · exact H.elim
  · obtain ⟨rfl, _⟩ := hx
    obtain ⟨rfl, _⟩ := hy
    refine fin (by simp) ?_
    split at H
    · rename_i hu
      exact ⟨_, _, H, fun w => by simp [binOp, run_equal_slice hu], rfl, rfl⟩
    · rename_i hu
      exact ⟨_, _, H, fun w => by simp [binOp, run_equal_slice hu], rfl, rfl⟩
    · exact H.elim
  · obtain ⟨vs, rfl, hx2, hx1⟩ := hx
    obtain ⟨us, rfl, hy2, hy1⟩ := hy
    cases hg : P.eqGuardType P.depth t
    · rw [hg] at H
      simp only [cond_false] at H
      split at H
      · rename_i kn r hr
        have := fun w => eqAV_ok (P := P) (E := E) 16 10000 (by omega) t _ _ _ _ _ hr ⟨vs, rfl, hx2, hx1⟩ ⟨us, rfl, hy2, hy1⟩ w
        refine ⟨_, .bool r, H, fun w => ?_, rfl, rfl⟩
        simp only [Sem.run_bind, run_eqGuard_agg w _ t _ _ vs us hg, Result.andThen_ok, binOp, Op.equal, Op.maxDepth, this, Sem.run_pure]
      · rename_i kn r hr
        have := fun w => eqAV_ok (P := P) (E := E) 16 10000 (by omega) t _ _ _ _ _ hr ⟨vs, rfl, hx2, hx1⟩ ⟨us, rfl, hy2, hy1⟩ w
        refine ⟨_, .bool (!r), H, fun w => ?_, rfl, rfl⟩
        simp only [Sem.run_bind, run_eqGuard_agg w _ t _ _ vs us hg, Result.andThen_ok, binOp, Op.equal, Op.maxDepth, this, Sem.run_pure]
      · exact H.elim
    · rw [hg] at H; exact H.elim
  · obtain ⟨_, _, rfl, _⟩ := hx
    obtain ⟨rfl, _⟩ := hy
    refine fin (by simp) ?_
    split at H
    · rename_i hu
      exact ⟨_, _, H, fun w => by simp [binOp, run_equal_fn hu], rfl, rfl⟩
    · rename_i hu
      exact ⟨_, _, H, fun w => by simp [binOp, run_equal_fn hu], rfl, rfl⟩
    · exact H.elim
  · exact H.elim
theorem unA_ok {K : AV → Prop} {op : UnOp} {x : AV} {v : Value} (H : (unA op x).holds K) (hx : Rel E x v) : ∃ av r, K av ∧ (∀ w, (Op.unary op v).run P w = .ok r w) ∧ Rel E av r := by
  unfold unA at H
  split at H
  · obtain ⟨rfl, _⟩ := hx
    exact ⟨_, _, H, fun w => by simp [Op.unary], rfl, rfl⟩
  · obtain ⟨rfl, _⟩ := hx
    exact ⟨_, _, H, fun w => by simp [Op.unary, Op.intArith], rfl, rfl⟩
  · exact H.elim
theorem minA_ok {K : AV → Prop} {l : List Operand} {ts : Array TypeId} {ty : TypeId} (hT : RelT E F a) (H : (minA (l.map (opnd F))).holds K) : ∃ av r, K av ∧ (∀ w, (Builtin.min_ ts ty (l.map a.eval).toArray).run P w = .ok r w) ∧ Rel E av r := by
  unfold minA at H
  split at H
  · rename_i k1 k p k2 k' q hl
    match l, hl with
    | [x, y], hl =>
      simp only [List.map_cons, List.map_nil, List.cons.injEq, and_true] at hl
      have h1 := rel_opnd hT x
      have h2 := rel_opnd hT y
      rw [hl.1] at h1
      rw [hl.2] at h2
      exact ⟨_, _, H, fun w => by simp [Builtin.min_, h1.1, h2.1, List.foldlM, Builtin.min2, imin], rfl, rfl⟩
    | [], hl => simp at hl
    | [_], hl => simp at hl
    | _ :: _ :: _ :: _, hl => simp at hl
  · exact H.elim
theorem maxA_ok {K : AV → Prop} {l : List Operand} {ts : Array TypeId} {ty : TypeId} (hT : RelT E F a) (H : (maxA (l.map (opnd F))).holds K) : ∃ av r, K av ∧ (∀ w, (Builtin.max_ ts ty (l.map a.eval).toArray).run P w = .ok r w) ∧ Rel E av r := by
  unfold maxA at H
  split at H
  · rename_i k1 k p k2 k' q hl
    match l, hl with
    | [x, y], hl =>
      simp only [List.map_cons, List.map_nil, List.cons.injEq, and_true] at hl
      have h1 := rel_opnd hT x
      have h2 := rel_opnd hT y
      rw [hl.1] at h1
      rw [hl.2] at h2
      exact ⟨_, _, H, fun w => by simp [Builtin.max_, h1.1, h2.1, List.foldlM, Builtin.max2, imax], rfl, rfl⟩
    | [], hl => simp at hl
    | [_], hl => simp at hl
    | _ :: _ :: _ :: _, hl => simp at hl
  · exact H.elim

/-! Structs that are put together. -/
theorem foldl_sets : ∀ (new : List Value) (cells : Array Value) (off j : Nat), off + j + new.length ≤ cells.size →
    ((new.zipIdx j).foldl (fun cs (p : Value × Nat) => cs.setIfInBounds (off + p.2) p.1) cells).toList = cells.toList.take (off + j) ++ new ++ cells.toList.drop (off + j + new.length)
  | [], cells, off, j, _ => by simp
  | v :: new, cells, off, j, h => by
    simp only [List.length_cons] at h
    rw [List.zipIdx_cons, List.foldl_cons, foldl_sets new _ off (j + 1) (by simp; omega)]
    simp only [Array.toList_setIfInBounds]
    rw [show off + (j + 1) = off + j + 1 by omega, List.take_add_one, List.take_set_of_le (by omega), List.getElem?_set_self (by simp; omega), List.drop_set_of_lt (by omega)]
    simp only [List.length_cons, Option.toList_some, List.append_assoc, List.cons_append, List.nil_append]
    rw [show off + j + 1 + new.length = off + j + (new.length + 1) by omega]
theorem fill_step {cells new : Array Value} {off : Nat} (h : off + new.size ≤ cells.size) :
    (new.zipIdx.foldl (fun cs (p : Value × Nat) => cs.setIfInBounds (off + p.2) p.1) cells).toList = cells.toList.take off ++ new.toList ++ cells.toList.drop (off + new.size) := by
  rw [← Array.foldl_toList, Array.toList_zipIdx]
  have := foldl_sets new.toList cells off 0 (by simpa using h)
  simpa using this
theorem fillA_ok {place : Nat → Option (Nat × Nat)} : ∀ {parts : List (Nat × AV)} {vs : List (Nat × Value)} {cs out : List AV} {cells : Array Value},
    fillA place cs parts = some out → RelL E cs cells.toList → (∀ u ∈ cells.toList, u.oneCell' = true) → parts.length = vs.length → (∀ (i : Nat) (p : Nat × AV) (q : Nat × Value), parts[i]? = some p → vs[i]? = some q → p.1 = q.1 ∧ Rel E p.2 q.2) →
    ∃ r, Instr.fill place cells vs = some r ∧ RelL E out r.toList ∧ (∀ u ∈ r.toList, u.oneCell' = true) ∧ r.size = cells.size
  | [], vs, cs, out, cells, hf, hr, h1, hl, _ => by
    simp only [fillA] at hf
    cases hf
    obtain rfl : vs = [] := by simpa using hl.symm
    exact ⟨cells, rfl, hr, h1, rfl⟩
  | (i, x) :: parts, [], _, _, _, _, _, _, hl, _ => by simp at hl
  | (i, x) :: parts, (i', v) :: vs, cs, out, cells, hf, hr, h1, hl, hp => by
    obtain ⟨rfl, hx⟩ : i = i' ∧ Rel E x v := hp 0 _ _ rfl rfl
    simp only [fillA] at hf
    split at hf
    · rename_i off n new hpl hc
      cases hb : Nat.beq new.length n && Nat.ble (off + n) cs.length
      · rw [hb] at hf; cases hf
      · rw [hb] at hf
        simp only [Bool.and_eq_true, cond_true] at hb hf
        obtain rfl := Nat.eq_of_beq_eq_true hb.1
        have hle := Nat.le_of_ble_eq_true hb.2
        obtain ⟨g1, g2⟩ := rel_cells hx hc
        have l1 : new.length = v.cells.size := by have := g1.length; simpa using this
        have l2 : cs.length = cells.size := by have := hr.length; simpa using this
        have hfit : off + v.cells.size ≤ cells.size := by omega
        have hstep := fill_step (cells := cells) (new := v.cells) hfit
        obtain ⟨r, e1, e2, e3, e4⟩ := fillA_ok (parts := parts) (vs := vs) (cells := v.cells.zipIdx.foldl (fun cs (p : Value × Nat) => cs.setIfInBounds (off + p.2) p.1) cells) hf
          (by rw [hstep]; have := ((hr.take off).append g1).append (hr.drop (off + new.length)); rw [l1] at this ⊢; exact this)
          (by
            rw [hstep]
            intro u hu
            simp only [List.mem_append] at hu
            rcases hu with (hu | hu) | hu
            · exact h1 u (List.mem_of_mem_take hu)
            · exact g2 u hu
            · exact h1 u (List.mem_of_mem_drop hu))
          (by simpa using hl) (fun j p q hj hq => hp (j + 1) p q (by simpa using hj) (by simpa using hq))
        have hsz : (v.cells.zipIdx.foldl (fun cs (p : Value × Nat) => cs.setIfInBounds (off + p.2) p.1) cells).size = cells.size := by
          rw [← Array.length_toList, hstep]
          simp only [List.length_append, List.length_take, List.length_drop, Array.length_toList]; omega
        refine ⟨r, ?_, e2, e3, e4.trans hsz⟩
        unfold Instr.fill
        simp only [hpl]
        rw [if_neg (by simp [l1]; omega)]
        exact e1
    · cases hf
theorem rel_parts {ps : List (Nat × Operand)} (hT : RelT E F a) (i : Nat) (p : Nat × AV) (q : Nat × Value) (h1 : (ps.map fun p => (p.1, opnd F p.2))[i]? = some p) (h2 : (ps.map fun p => (p.1, a.eval p.2))[i]? = some q) : p.1 = q.1 ∧ Rel E p.2 q.2 := by
  rw [List.getElem?_map] at h1 h2
  cases hp : ps[i]? with
  | none => rw [hp] at h1; cases h1
  | some x => rw [hp] at h1 h2; cases h1; cases h2; exact ⟨rfl, rel_opnd hT _⟩
theorem zeroA_ok {t : TypeId} {cs : List AV} (hz : zeroA P t = some cs) : ∃ z, (∀ w, (zeroValue t).run P w = .ok z w) ∧ (∃ i, P.info? t = some i ∧ i.zero = some z) ∧ RelL E cs z.cells.toList ∧ ∀ u ∈ z.cells.toList, u.oneCell' = true := by
  unfold zeroA at hz
  split at hz
  · rename_i z hz'
    cases hi : P.info? t with
    | none => rw [hi] at hz'; cases hz'
    | some i =>
      rw [hi] at hz'
      have hz'' : i.zero = some z := hz'
      obtain ⟨g1, g2⟩ := rel_cells (E := E) (rel_const z) hz
      exact ⟨z, fun w => by simp [zeroValue, typeInfo, hi, hz''], ⟨i, rfl, hz''⟩, g1, g2⟩
  · cases hz
theorem run_places : ∀ {fs : List Field}, (∀ f ∈ fs, ∃ n, sizeT P f.type = some n) → (fs.mapM (m := Sem) fun f => do pure (f.offset, ← sizeOf f.type)).run P w = .ok (fs.map fun f => (f.offset, (sizeT P f.type).getD 0)) w
  | [], _ => rfl
  | f :: fs, h => by
    obtain ⟨n, hn⟩ := h f (by simp)
    have ih := run_places (fs := fs) fun f hf => h f (List.mem_cons_of_mem _ hf)
    simp only [List.mapM_cons, Sem.run_bind, run_sizeOf hn, Result.andThen_ok, Sem.run_pure, List.map_cons, hn, Option.getD_some]
    rw [ih]
    rfl
theorem fill_congr {p q : Nat → Option (Nat × Nat)} : ∀ {vs : List (Nat × Value)} {cells : Array Value}, (∀ v ∈ vs, p v.1 = q v.1) → Instr.fill p cells vs = Instr.fill q cells vs
  | [], _, _ => rfl
  | (i, v) :: vs, cells, h => by
    have h0 := h (i, v) (by simp)
    simp only at h0
    unfold Instr.fill
    rw [h0]
    split
    · rfl
    · split
      · rfl
      · exact fill_congr fun v hv => h v (by simp [hv])
theorem fillA_places {place : Nat → Option (Nat × Nat)} : ∀ {parts : List (Nat × AV)} {cs out : List AV}, fillA place cs parts = some out → ∀ p ∈ parts, (place p.1).isSome = true
  | [], _, _, _, _, hp => by simp at hp
  | (i, x) :: parts, cs, out, hf, p, hp => by
    simp only [fillA] at hf
    split at hf
    · rename_i off n new hpl hc
      cases hb : Nat.beq new.length n && Nat.ble (off + n) cs.length
      · rw [hb] at hf; cases hf
      · rw [hb] at hf
        rcases List.mem_cons.1 hp with rfl | hp
        · simp [hpl]
        · exact fillA_places hf p hp
    · cases hf
def allSized (P : Program) (fs : Array Field) : Bool := fs.toList.all fun f => (sizeT P f.type).isSome
theorem buildA_ok {K : AV → Prop} {t : TypeId} {ps : Array (Nat × Operand)} {vps : Array (Nat × Value)} (hps : vps.toList = ps.toList.map fun p => (p.1, a.eval p.2)) (hT : RelT E F a) (H : (buildA P t (ps.toList.map fun p => (p.1, opnd F p.2))).holds K) :
    ∃ av u, K av ∧ (∀ w, (Instr.build t vps).run P w = .ok u w) ∧ Rel E av u := by
  unfold buildA at H
  split at H
  · exact H.elim
  rename_i z hz
  obtain ⟨zv, hzr, _, g1, g2⟩ := zeroA_ok (E := E) hz
  split at H
  · rename_i fs hu
    cases hall : fs.toList.all (fun f => (sizeT P f.type).isSome)
    · rw [hall] at H; exact H.elim
    rw [hall] at H
    simp only [cond_true] at H
    have hall' : ∀ f ∈ fs.toList, ∃ n, sizeT P f.type = some n := fun f hf => Option.isSome_iff_exists.1 (List.all_eq_true.1 hall f hf)
    split at H
    · rename_i cs hf
      obtain ⟨r, e1, e2, e3, _⟩ := fillA_ok (vs := ps.toList.map fun p => (p.1, a.eval p.2)) hf g1 g2 (by simp) (fun i p q => rel_parts hT i p q)
      refine ⟨_, .agg r, H, fun w => ?_, r, rfl, e2, e3⟩
      have hpl := run_places (P := P) (w := w) hall'
      have hm : (fs.mapM (m := Sem) fun f => do pure (f.offset, ← sizeOf f.type)).run P w = .ok (fs.map fun f => (f.offset, (sizeT P f.type).getD 0)) w := by
        rw [Array.mapM_eq_mapM_toList]
        show (List.mapM (m := Sem) (fun f : Field => do pure (f.offset, ← sizeOf f.type)) fs.toList >>= fun l => pure l.toArray : Sem _).run P w = _
        rw [Sem.run_bind, hpl]
        simp only [Result.andThen_ok, Sem.run_pure]
        congr 1
        apply Array.ext'
        simp
      have hfe : Instr.fill ((fs.map fun f => (f.offset, (sizeT P f.type).getD 0))[·]?) zv.cells vps.toList = some r := by
        rw [hps, ← e1]
        refine fill_congr fun v hv => ?_
        obtain ⟨q, hq, rfl⟩ := List.mem_map.1 hv
        have hs := fillA_places hf (q.1, opnd F q.2) (List.mem_map.2 ⟨q, hq, rfl⟩)
        unfold fieldsA at hs ⊢
        simp only [Array.getElem?_map]
        cases hfi : fs[q.1]? with
        | none => rw [hfi] at hs; cases hs
        | some f =>
          obtain ⟨n, hn⟩ := hall' f (by simpa using Array.mem_of_getElem? hfi)
          simp [hn]
      simp only [Instr.build, Sem.run_bind, hzr, Result.andThen_ok, run_underlying hu, hm, hfe, Sem.run_pure]
    · exact H.elim
  · rename_i m e hu
    split at H
    · rename_i n hn
      split at H
      · rename_i cs hf
        obtain ⟨r, e1, e2, e3, _⟩ := fillA_ok (vs := ps.toList.map fun p => (p.1, a.eval p.2)) hf g1 g2 (by simp) (fun i p q => rel_parts hT i p q)
        refine ⟨_, .agg r, H, fun w => ?_, r, rfl, e2, e3⟩
        rw [← hps] at e1
        simp only [Instr.build, Sem.run_bind, hzr, Result.andThen_ok, run_underlying hu, run_sizeOf hn, e1, Sem.run_pure]
      · exact H.elim
    · exact H.elim
  · exact H.elim
end
end
end Go.Proofs.YtcambhbmobepjaaGreat
