/- Words that later texts use: what a slice of bytes reads as. No condition. -/
import Derived.WalkKit
import Derived.Below
import Derived.Lib.Hide
import Derived.Laws.BytesArg
import Derived.Laws.BitsAllLaws
import Derived.Laws.AppendOwnNone
import Derived.Lib.SlBytesConst
import Derived.Deep.QuietTactic
import Derived.BigQuiet
import Derived.IntWalk
import Derived.WalkLawsBesides
import Derived.WalkSpells
import Derived.StillTailTactics
import Derived.Deep.RegionHeld3
import Derived.Deep.RegionLaw
namespace Go.Proofs.YtdlomggjhclmlaaGreatDoor
set_option linter.unusedSimpArgs false
set_option linter.unusedVariables false
open Go.RowKit

/-- The value v is a slice of the bytes l, readable in w. -/
def IsBytes (w : World) (v : Value) (l : List UInt8) : Prop :=
  (v = .slice none 0 0 ∧ l = []) ∨
  ∃ x cap, v = .slice (some x) l.length cap ∧ l.length ≤ cap ∧ cap ≤ maxLen ∧ ∀ i, i < l.length → w.cell? (x.add i) = some (.int .u8 ((l[i]?.getD 0).toNat : Int))

theorem IsBytes.nil (w : World) : IsBytes w (.slice none 0 0) [] := .inl ⟨rfl, rfl⟩

theorem IsBytes.below {w w' : World} {v : Value} {l : List UInt8} (h : IsBytes w v l) (hb : Below w.heap.size w w') : IsBytes w' v l := by
  rcases h with h | ⟨x, cap, rfl, h1, h2, h3⟩
  · exact .inl h
  · refine .inr ⟨x, cap, rfl, h1, h2, fun i hi => ?_⟩
    have := h3 i hi
    rw [hb.cell (World.block_lt_of_cell? w _ this)]
    exact this

theorem IsBytes.shape {w : World} {v : Value} {l : List UInt8} (h : IsBytes w v l) : ∃ a cap, v = .slice a l.length cap ∧ l.length ≤ cap ∧ cap ≤ maxLen := by
  rcases h with ⟨rfl, rfl⟩ | ⟨x, cap, rfl, h1, h2, _⟩
  · exact ⟨none, 0, rfl, Nat.le_refl _, Nat.zero_le _⟩
  · exact ⟨some x, cap, rfl, h1, h2⟩
theorem IsBytes.len_le {w : World} {v : Value} {l : List UInt8} (h : IsBytes w v l) : l.length ≤ 9223372036854775807 := by
  obtain ⟨_, _, _, h1, h2⟩ := h.shape
  unfold maxLen at h2; omega

theorem ret_eq {a b : Value} (h : a = b) : Ending.returned a = .returned b := by rw [h]
theorem int_eq {k : IntKind} {a b : Int} (h : a = b) : Value.int k a = .int k b := by rw [h]
theorem bool_eq {a b : Bool} (h : a = b) : Value.bool a = .bool b := by rw [h]

theorem u8_lt (a : UInt8) : a.toNat < 256 := a.toNat_lt
theorem u8_or_u (a b : UInt8) : bits .or .u8 (a.toNat : Int) (b.toNat : Int) = ((a ||| b).toNat : Int) := by rw [u8_or_nat _ _ (u8_lt a) (u8_lt b), UInt8.toNat_or]
theorem u8_xor_u (a b : UInt8) : bits .xor .u8 (a.toNat : Int) (b.toNat : Int) = ((a ^^^ b).toNat : Int) := by rw [u8_xor_nat _ _ (u8_lt a) (u8_lt b), UInt8.toNat_xor]
theorem u8_and_u (a b : UInt8) : bits .and .u8 (a.toNat : Int) (b.toNat : Int) = ((a &&& b).toNat : Int) := by rw [u8_and_nat _ _ (u8_lt a) (u8_lt b), UInt8.toNat_and]

theorem below_drewN' {B : Nat} {a w : World} (h : Below B a w) (n : Nat) : Below B a (w.drewN n) := h.trans (⟨rfl, rfl, rfl, Nat.le_refl _, fun _ _ => rfl⟩)

/-- src is nil, or a slice of the cells news. -/
def SrcOf (w : World) (size : Nat) (src : Value) (m : Nat) (news : List Value) : Prop :=
  (src = .slice none 0 0 ∧ m = 0 ∧ news = []) ∨
  ∃ ad c, src = .slice (some ad) m c ∧ news.length = m * size ∧ (∀ j u, news[j]? = some u → w.cell? (ad.add j) = some u) ∧ ∀ u ∈ news, u.oneCell' = true

/-- t is the type of slices of e; an element takes so many cells and bytes. -/
structure ElemOf (P : Program) (t e : TypeId) (size bytes : Nat) (z : Value) : Prop where
  ht : P.underlying t = some (.slice e)
  ex : ∃ i, P.info? e = some i ∧ i.zero = some z ∧ i.size = size ∧ i.bytes = bytes
  hzs : z.cells.size = size
  pos : 0 < size
  one : 1 ≤ bytes

theorem wp_append_from {P : Program} {w : World} {o : Oper} {a : Act} {K : Act → World → Prop} {Q : Exit → Act → World → Prop} (s x : Operand) (t : TypeId)
    (ho : o.op = .call { callee := .builtin .append, args := #[s, x], argTypes := #[t, t] })
    (base : Nat) {e : TypeId} {size bytes : Nat} {z : Value} (hE : ElemOf P t e size bytes z)
    {v : Value} {n : Nat} {xs : List Value} (hs : a.eval s = v) (hown : w.ownsRow base e size v n xs)
    {src : Value} {m : Nat} {news : List Value} (hx : a.eval x = src) (hsrc : SrcOf w size src m news)
    (hbytes : (n + m) * bytes ≤ 140737488355328) (hbase : base ≤ w.heap.size)
    (h : ∀ v' w', w'.ownsRow base e size v' (n + m) (xs ++ news) → w.grownBy w' v.ownBlock → Below base w w' → K (a.put o.dst v') w') : o.wp P a w K Q := by
  obtain ⟨ht, ⟨i, hi, hz, hsize, hby⟩, hzs, hpos, hone⟩ := hE
  have hlt := hown.lt
  have h63 : n + m ≤ maxLen := by
    have := Nat.le_trans (Nat.le_mul_of_pos_right (n + m) hone) hbytes
    unfold maxLen; omega
  rcases hsrc with ⟨rfl, rfl, rfl⟩ | ⟨ad, c, rfl, hl, hnews, h1⟩
  · have hrun := run_append_owned_none (P := P) (w := w) base t o.type e i size ht hi v n xs hown
    have hk := h v w (by simpa using hown) ⟨rfl, rfl, rfl, Nat.le_refl _, fun _ _ _ => rfl⟩ (Below.refl _ _)
    unfold Oper.wp
    simp [execOp, ho, resolve, invoke, builtin, hs, hx, hrun, Result.andThen]
    exact hk
  · refine wp_append_own w s x t ho base e i z size bytes ht hi hz hsize hby hzs hpos v n xs hs hown ad m c news hx hl hnews h1 h63 hbytes hbase ?_
    intro v' w' ho' hg' _
    exact h v' w' ho' hg' ((Below.refl base w).grown hg' hbase (fun k hk => (hlt k hk).1))

theorem wpList_append_from {P : Program} {w : World} {ops : Array Oper} {rest : List Oper} {o : Oper} {a : Act} {Q : Exit → Act → World → Prop} (hgd : o.guard = none) (s x : Operand) (t : TypeId)
    (ho : o.op = .call { callee := .builtin .append, args := #[s, x], argTypes := #[t, t] })
    (base : Nat) {e : TypeId} {size bytes : Nat} {z : Value} (hE : ElemOf P t e size bytes z)
    {v : Value} {n : Nat} {xs : List Value} (hs : a.eval s = v) (hown : w.ownsRow base e size v n xs)
    {src : Value} {m : Nat} {news : List Value} (hx : a.eval x = src) (hsrc : SrcOf w size src m news)
    (hbytes : (n + m) * bytes ≤ 140737488355328) (hbase : base ≤ w.heap.size)
    (h : ∀ v' w', w'.ownsRow base e size v' (n + m) (xs ++ news) → w.grownBy w' v.ownBlock → Below base w w' → wpList P ops Q rest (a.put o.dst v') w') : wpList P ops Q (o :: rest) a w :=
  wpList_plain hgd fun _ hK => wp_append_from s x t ho base hE hs hown hx hsrc hbytes hbase fun v' w' h1 h2 h3 => hK _ _ (h v' w' h1 h2 h3)

/-- The same, at a step of a region that draws its order. -/
theorem step_append_from {P : Program} {w : World} {ops : Array Oper} {o : Oper} {a : Act} {K : Act → World → Prop} {Q : Exit → Act → World → Prop} {E : Prop} (hgd : o.guard = none) (s x : Operand) (t : TypeId)
    (ho : o.op = .call { callee := .builtin .append, args := #[s, x], argTypes := #[t, t] })
    (base : Nat) {e : TypeId} {size bytes : Nat} {z : Value} (hE : ElemOf P t e size bytes z)
    {v : Value} {n : Nat} {xs : List Value} (hs : a.eval s = v) (hown : w.ownsRow base e size v n xs)
    {src : Value} {m : Nat} {news : List Value} (hx : a.eval x = src) (hsrc : SrcOf w size src m news)
    (hbytes : (n + m) * bytes ≤ 140737488355328) (hbase : base ≤ w.heap.size)
    (h : ∀ v' w', w'.ownsRow base e size v' (n + m) (xs ++ news) → w.grownBy w' v.ownBlock → Below base w w' → K (a.put o.dst v') w') :
    if Region.wanted o (yielded ops a.tmps) = true then Oper.wp P o a w K Q else E := by
  have hw : Region.wanted o (yielded ops a.tmps) = true := by simp [Region.wanted, hgd]
  rw [if_pos hw]
  exact wp_append_from s x t ho base hE hs hown hx hsrc hbytes hbase h

theorem foldl_push_u8 : ∀ (l : List UInt8) (s : ByteArray), (l.map fun b => (b.toNat : Int)).foldl (fun r n => r.push (UInt8.ofNat n.toNat)) s = ⟨s.data ++ l.toArray⟩
  | [], s => by simp
  | b :: l, s => by
    rw [List.map_cons, List.foldl_cons, foldl_push_u8 l]
    simp [ByteArray.push]

/-- 'string(b)' -/
theorem run_string_bytes {P : Program} {w : World} {src dst e : TypeId} (hs : P.underlying src = some (.slice e)) (he : P.underlying e = some (.int .u8)) (hd : P.underlying dst = some .string) {v : Value} {l : List UInt8} (h : IsBytes w v l) :
    (convert src dst v).run P w = .ok (.string ⟨l.toArray⟩) w := by
  rcases h with ⟨rfl, rfl⟩ | ⟨x, cap, rfl, h1, h2, h3⟩
  · exact run_convert_bytes_nil w src e hs he 0 0 dst hd
  · have hl : (loadCells x l.length).run P w = .ok ((l.map fun b => (b.toNat : Int)).map (Value.int .u8)).toArray w := by
      have := run_loadCells_list (P := P) w x ((l.map fun b => (b.toNat : Int)).map (Value.int .u8)) (fun j v hj => by
        have hjl : j < l.length := by
          rcases Nat.lt_or_ge j l.length with h | h
          · exact h
          · simp [List.getElem?_eq_none h] at hj
        rw [h3 j hjl]
        simp [hjl] at hj
        simp [hjl, hj])
      simpa using this
    rw [run_convert_bytes_string w src dst e _ _ cap hs he hd, run_bytesToString w _ _ cap _ hl, foldl_push_u8]
    simp [ByteArray.empty, ByteArray.emptyWithCapacity]
    rfl

theorem run_equalIn_six {P : Program} (w : World) (n : Nat) (t e : TypeId) (ht : P.underlying t = some (.array 6 e)) (he : P.underlying e = some (.int .u8)) (hi : (P.info? e).map (·.size) = some 1) (a b c d e' f a1 b1 c1 d1 e1 f1 : Int) :
    (Op.equalIn (n + 2) t (.agg #[.int .u8 a, .int .u8 b, .int .u8 c, .int .u8 d, .int .u8 e', .int .u8 f]) (.agg #[.int .u8 a1, .int .u8 b1, .int .u8 c1, .int .u8 d1, .int .u8 e1, .int .u8 f1])).run P w = .ok (a == a1 && (b == b1 && (c == c1 && (d == d1 && (e' == e1 && f == f1))))) w := by
  obtain ⟨i, hi1, hi2⟩ : ∃ i, P.info? e = some i ∧ i.size = 1 := by
    cases h : P.info? e with
    | none => simp [h] at hi
    | some i => simp [h] at hi; exact ⟨i, rfl, hi⟩
  unfold Op.equalIn
  simp only [Sem.run_bind, run_underlying ht, Result.andThen_ok]
  simp [sizeOf, typeInfo, hi1, hi2, Std.Legacy.Range.forIn_eq_forIn_range', List.range', part, isAgg, run_underlying he, run_equalIn_int w n e _ _ _ _ he]
  by_cases h1 : a = a1
  · by_cases h2 : b = b1
    · by_cases h3 : c = c1
      · by_cases h4 : d = d1
        · by_cases h5 : e' = e1
          · by_cases h6 : f = f1 <;> simp [h1, h2, h3, h4, h5, h6]
          · simp [h1, h2, h3, h4, h5]
        · simp [h1, h2, h3, h4]
      · simp [h1, h2, h3]
    · simp [h1, h2]
  · simp [h1]

/-- 'a[l:h]' of an array of bytes behind a pointer -/
theorem run_slice_array {P : Program} {t e : TypeId} {n : Nat} (ht : P.underlying t = some (.array n e)) (hs : (P.info? e).map (·.size) = some 1) (B : Nat) (l h : Nat) (h1 : l ≤ h) (h2 : h ≤ n) (h3 : l < n) (kl kh : IntKind) (W : World) :
    (Instr.sliceAt t (.pointer (some ⟨B, 0, none⟩)) (some (.int kl (l : Int))) (some (.int kh (h : Int))) none).run P W = .ok (.slice (some ⟨B, l, none⟩) (h - l) (n - l)) W := by
  obtain ⟨i, hi1, hi2⟩ : ∃ i, P.info? e = some i ∧ i.size = 1 := by
    cases h : P.info? e with
    | none => simp [h] at hs
    | some i => simp [h] at hs; exact ⟨i, rfl, hs⟩
  have hn : ¬ n = l := by omega
  have hadd : (⟨B, 0, none⟩ : Addr).add l = ⟨B, l, none⟩ := by unfold Addr.add; split <;> simp_all
  simp [Instr.sliceAt, Instr.sureAddr, run_underlying ht, Instr.sliceBounds, run_sliceBound, sizeOf, typeInfo, hi1, hi2, hn, hadd, (by omega : (0 : Int) ≤ l), (by omega : (0 : Int) ≤ h), (by omega : (h : Int) ≤ n), (by omega : (l : Int) ≤ h)]

theorem alloc2 (w : World) (o1 o2 : Obj) : ((w.alloc o1).alloc o2).heap[w.heap.size]? = some o1 ∧ ((w.alloc o1).alloc o2).heap[w.heap.size + 1]? = some o2 ∧ ((w.alloc o1).alloc o2).heap.size = w.heap.size + 1 + 1 := by
  refine ⟨?_, ?_, by simp⟩
  · rw [heap_alloc_old _ _ (by simp)]; exact heap_alloc_new w o1
  · have := heap_alloc_new (w.alloc o1) o2
    rwa [World.size_alloc] at this
theorem alloc3 (w : World) (o1 o2 o3 : Obj) : (((w.alloc o1).alloc o2).alloc o3).heap[w.heap.size]? = some o1 ∧ (((w.alloc o1).alloc o2).alloc o3).heap[w.heap.size + 1]? = some o2 ∧
    (((w.alloc o1).alloc o2).alloc o3).heap[w.heap.size + 1 + 1]? = some o3 ∧ (((w.alloc o1).alloc o2).alloc o3).heap.size = w.heap.size + 1 + 1 + 1 ∧ Below w.heap.size w (((w.alloc o1).alloc o2).alloc o3) := by
  obtain ⟨h1, h2, h3⟩ := alloc2 w o1 o2
  refine ⟨?_, ?_, ?_, by simp, (((Below.refl _ _).alloc (Nat.le_refl _) _).alloc (by simp) _).alloc (by simp; omega) _⟩
  · rw [heap_alloc_old _ _ (by rw [h3]; omega)]; exact h1
  · rw [heap_alloc_old _ _ (by rw [h3]; omega)]; exact h2
  · have := heap_alloc_new ((w.alloc o1).alloc o2) o3
    rwa [h3] at this

theorem six_cells {w : World} {g : Nat} {t : TypeId} {a b c d e f : Value} (h : w.heap[g]? = some (.cells #[a, b, c, d, e, f] t (0, 0))) :
    w.cell? ⟨g, 0, none⟩ = some a ∧ w.cell? ⟨g, 1, none⟩ = some b ∧ w.cell? ⟨g, 2, none⟩ = some c ∧ w.cell? ⟨g, 3, none⟩ = some d ∧ w.cell? ⟨g, 4, none⟩ = some e ∧ w.cell? ⟨g, 5, none⟩ = some f ∧ ∀ j, w.frozen? ⟨g, j, none⟩ = false := by
  refine ⟨?_, ?_, ?_, ?_, ?_, ?_, fun j => frozen_of_row w g j _ t h⟩ <;> (rw [cell_of_row w g _ _ t _ h]; rfl)

theorem str_beq (L L' : List UInt8) : ((⟨L.toArray⟩ : ByteArray).toList == (⟨L'.toArray⟩ : ByteArray).toList) = (L == L') := by
  rw [ByteArray.toList_eq, ByteArray.toList_eq]

theorem below_next {w W w2 : World} (h : Below W.heap.size W w2) (hB : Below w.heap.size w W) : Below w.heap.size w w2 := hB.trans (h.mono hB.size)
theorem below_drewB {w W : World} (h : Below w.drew.heap.size w.drew W) : Below w.heap.size w W := (Below.refl w.heap.size w).drew.trans h
theorem cell_below {w W : World} {a : Addr} {v : Value} (h : w.cell? a = some v) (hB : Below w.heap.size w W) : W.cell? a = some v := by
  rw [hB.cell (World.block_lt_of_cell? w _ h)]; exact h

/-- a block of cells that was just made, as the source of an append -/
theorem src_block {w : World} {B : Nat} {cs : Array Value} {t : TypeId} {fr : Nat × Nat} (size m c : Nat) (hb : w.heap[B]? = some (.cells cs t fr)) (hl : cs.size = m * size) (h1 : ∀ u ∈ cs.toList, u.oneCell' = true) : SrcOf w size (.slice (some ⟨B, 0, none⟩) m c) m cs.toList := by
  refine .inr ⟨⟨B, 0, none⟩, c, rfl, by simpa using hl, fun j u hu => ?_, h1⟩
  have hadd : (⟨B, 0, none⟩ : Addr).add j = ⟨B, j, none⟩ := by unfold Addr.add; split <;> simp_all
  rw [hadd, cell_of_row w B j cs t fr hb]
  simpa using hu

abbrev bv (b : UInt8) : Value := .int .u8 (b.toNat : Int)

theorem IsBytes.src {w : World} {v : Value} {l : List UInt8} (h : IsBytes w v l) : SrcOf w 1 v l.length (l.map bv) := by
  rcases h with ⟨rfl, rfl⟩ | ⟨x, cap, rfl, h1, h2, h3⟩
  · exact .inl ⟨rfl, rfl, rfl⟩
  · refine .inr ⟨x, cap, rfl, by simp, ?_, ?_⟩
    · intro j u hu
      rw [List.getElem?_map] at hu
      cases hj : l[j]? with
      | none => simp [hj] at hu
      | some b =>
        simp [hj] at hu
        subst hu
        have hlt : j < l.length := by
          rcases Nat.lt_or_ge j l.length with h | h
          · exact h
          · simp [List.getElem?_eq_none h] at hj
        rw [h3 j hlt, hj]; rfl
    · intro u hu
      obtain ⟨_, _, rfl⟩ := List.mem_map.1 hu
      rfl

theorem addr_add (x : Addr) (a b : Nat) : (x.add a).add b = x.add (a + b) := by
  unfold Addr.add
  by_cases h : a = 0 <;> by_cases h' : b = 0 <;> simp [h, h', Nat.add_assoc]

/-- 'v[k:]' at the end of the room keeps the address. -/
theorem src_drop_all {w : World} (x : Addr) (l : List UInt8) : SrcOf w 1 (.slice (some x) 0 0) 0 ((l.drop l.length).map bv) := by
  rw [List.drop_length]
  exact .inr ⟨x, 0, rfl, rfl, fun j u hu => by simp at hu, fun u hu => by simp at hu⟩
/-- 'v[k:]' -/
theorem src_drop {w : World} {x : Addr} {l : List UInt8} (h3 : ∀ i, i < l.length → w.cell? (x.add i) = some (.int .u8 ((l[i]?.getD 0).toNat : Int))) (k c : Nat) :
    SrcOf w 1 (.slice (some (x.add k)) (l.length - k) c) (l.length - k) ((l.drop k).map bv) := by
  refine .inr ⟨x.add k, c, rfl, by simp, ?_, ?_⟩
  · intro j u hu
    rw [List.getElem?_map, List.getElem?_drop] at hu
    by_cases hj : k + j < l.length
    · simp [hj] at hu
      subst hu
      rw [addr_add, h3 _ hj]
      simp [hj]
    · simp [hj] at hu
  · intro u hu
    obtain ⟨_, _, rfl⟩ := List.mem_map.1 hu
    rfl
theorem SrcOf.alloc {w : World} {size : Nat} {src : Value} {m : Nat} {news : List Value} (h : SrcOf w size src m news) (o : Obj) : SrcOf (w.alloc o) size src m news := by
  rcases h with h | ⟨ad, c, rfl, h1, h2, h3⟩
  · exact .inl h
  · exact .inr ⟨ad, c, rfl, h1, fun j u hu => (World.cell?_alloc_lt _ _ _ (World.block_lt_of_cell? w _ (h2 j u hu))).trans (h2 j u hu), h3⟩
/-- '[]T{}' -/
theorem own_empty (w : World) (base : Nat) (hb : base ≤ w.heap.size) (e : TypeId) (size : Nat) : (w.alloc (.cells #[] e)).ownsRow base e size (.slice (some ⟨w.heap.size, 0, none⟩) 0 0) 0 [] :=
  World.ownsRow_made w #[] 0 hb (by simp) (by simp)
/-- a block of bytes that was just made -/
theorem bytes_block {w : World} {B : Nat} {t : TypeId} {fr : Nat × Nat} (l : List UInt8) (c : Nat) (hb : w.heap[B]? = some (.cells (l.map bv).toArray t fr)) (h1 : l.length ≤ c) (h2 : c ≤ maxLen) : IsBytes w (.slice (some ⟨B, 0, none⟩) l.length c) l := by
  refine .inr ⟨⟨B, 0, none⟩, c, rfl, h1, h2, fun i hi => ?_⟩
  have hadd : (⟨B, 0, none⟩ : Addr).add i = ⟨B, i, none⟩ := by unfold Addr.add; split <;> simp_all
  rw [hadd, cell_of_row w B i _ t fr hb]
  simp [hi]

/-- A row of bytes that the call owns reads as these bytes. -/
theorem own_bytes {w : World} {base : Nat} {e : TypeId} {v : Value} {n : Nat} {l : List UInt8} (h : w.ownsRow base e 1 v n (l.map bv)) : IsBytes w v l := by
  have hn : n = l.length := by have := h.1; simp at this; exact this.symm
  subst hn
  have hc := h
  obtain ⟨_, h⟩ := h
  rcases h with ⟨rfl, h⟩ | ⟨g, cap, cur, rfl, _, hg, h1, h2, h3, h4⟩
  · exact .inl ⟨rfl, List.eq_nil_of_length_eq_zero h⟩
  · refine .inr ⟨⟨g, 0, none⟩, cap, rfl, h1, h2, fun i hi => ?_⟩
    refine hc.cells (g := g) rfl i _ ?_
    rw [List.getElem?_map]
    simp [hi]

theorem own_drewN {w : World} {base : Nat} {e : TypeId} {size : Nat} {v : Value} {n : Nat} {xs : List Value} (h : w.ownsRow base e size v n xs) (m : Nat) : (w.drewN m).ownsRow base e size v n xs := h

theorem own_below {w w' : World} {base : Nat} {e : TypeId} {size : Nat} {v : Value} {n : Nat} {xs : List Value} (h : w.ownsRow base e size v n xs) (hb : Below w.heap.size w w') : w'.ownsRow base e size v n xs := by
  refine ⟨h.1, ?_⟩
  rcases h.2 with h2 | ⟨g, cap, cur, hv, hg, hh, r⟩
  · exact .inl h2
  · exact .inr ⟨g, cap, cur, hv, hg, by rw [hb.block g (Array.getElem?_eq_some_iff.1 hh).1]; exact hh, r⟩

theorem own_frozen {w : World} {base : Nat} {e : TypeId} {size : Nat} {g n c : Nat} {xs : List Value} (h : w.ownsRow base e size (.slice (some ⟨g, 0, none⟩) n c) n xs) (j : Nat) : w.frozen? ⟨g, j, none⟩ = false := by
  obtain ⟨_, h⟩ := h
  rcases h with ⟨h, _⟩ | ⟨g', cap, cur, hv, _, hg, _⟩
  · cases h
  · cases hv
    simp [World.frozen?, hg]

theorem own_cell {w : World} {base : Nat} {e : TypeId} {size : Nat} {g n c : Nat} {xs : List Value} (h : w.ownsRow base e size (.slice (some ⟨g, 0, none⟩) n c) n xs) (j : Nat) (u : Value) (hu : xs[j]? = some u) : w.cell? ⟨g, j, none⟩ = some u := by
  have := h.cells (g := g) rfl j u hu
  rwa [show (⟨g, 0, none⟩ : Addr).add j = ⟨g, j, none⟩ by unfold Addr.add; split <;> simp_all] at this

theorem own_set {w : World} {base : Nat} {e : TypeId} {size : Nat} {g n c : Nat} {xs : List Value} (h : w.ownsRow base e size (.slice (some ⟨g, 0, none⟩) n c) n xs) (j : Nat) (u : Value) :
    (w.setCell ⟨g, j, none⟩ u).ownsRow base e size (.slice (some ⟨g, 0, none⟩) n c) n (xs.set j u) := by
  obtain ⟨hl, h⟩ := h
  refine ⟨by simpa using hl, ?_⟩
  rcases h with ⟨h, _⟩ | ⟨g', cap, cur, hv, hb, hg, h1, h2, h3, h4⟩
  · cases h
  · cases hv
    refine .inr ⟨g, c, cur.setIfInBounds j u, rfl, hb, ?_, h1, h2, by simpa using h3, ?_⟩
    · simp [World.setCell, Array.getElem?_modify, hg]
    · rw [Array.toList_setIfInBounds, List.take_set, h4]

theorem run_make_own_full {P : Program} {t e : TypeId} {size bytes : Nat} {z : Value} (hE : ElemOf P t e size bytes z) (w : World) (base : Nat) (kl kc : IntKind) (n : Nat) (hbytes : bytes * n ≤ 281474976710656) (h63 : n ≤ maxLen) (hbase : base ≤ w.heap.size) :
    ∃ w', (Instr.makeSlice t (.int kl (n : Int)) (.int kc (n : Int))).run P w = .ok (.slice (some ⟨w.heap.size, 0, none⟩) n n) w' ∧
      w'.ownsRow base e size (.slice (some ⟨w.heap.size, 0, none⟩) n n) n (madeCells z.cells (n * size)).toList ∧ Below w.heap.size w w' ∧ w'.heap.size = w.heap.size + 1 := by
  obtain ⟨ht, ⟨i, hi, hz, rfl, rfl⟩, hzs, hpos, hone⟩ := hE
  have h63' : (n : Int) ≤ 9223372036854775807 := by unfold maxLen at h63; omega
  have hr := run_make (P := P) w t e i z ht hi hz kl kc (n : Int) (n : Int) (by omega) (Int.le_refl _) (by rw [← Int.natCast_mul]; exact Int.ofNat_le.2 hbytes) h63'
  simp only [Int.toNat_natCast] at hr
  have hsz : (madeCells z.cells (n * i.size)).size = n * i.size := by
    simp [madeCells]
  refine ⟨_, hr, ⟨by simpa using hsz, .inr ⟨w.heap.size, n, _, rfl, hbase, heap_alloc_new w _, Nat.le_refl _, h63, hsz, ?_⟩⟩, (Below.refl _ _).alloc (Nat.le_refl _) _, by simp⟩
  rw [List.take_of_length_le (by simp [hsz])]

/-! A region that draws its order, walked once in the order of the text: reads are taken first, from one call to the next. -/
section rg
variable {P : Program} {ops : Array Oper} {Q : Exit → Act → World → Prop} {md : Region.Mode}

/-- what was there at wk is there still -/
def Sb (wk W : World) : Prop := Below wk.heap.size wk W

theorem Sb.refl (w : World) : Sb w w := Below.refl _ _

theorem wpAnyH_mono {S S2 : World → Prop} (h : ∀ w, S2 w → S w) : ∀ (fuel : Nat) (listed : Array Bool) (a : Act) (w : World), wpAnyH P md ops Q S2 fuel listed a w → wpAnyH P md ops Q S fuel listed a w
  | 0, _, _, _, hh => hh
  | fuel + 1, _, _, _, hh => ⟨hh.1, fun i hi => wpOp_mono (fun a' w' h' => ⟨h _ h'.1, wpAnyH_mono h fuel _ a' w' h'.2⟩) (hh.2 i hi)⟩

theorem rg_begin {id : Nat} {a : Act} {w : World} (hm : P.follows .mixedOrders = true)
    (h : wpAnyH P .any ops Q (Sb w.drew) ops.size (Array.replicate ops.size false) a w.drew) : (Code.region id ops true).wp P Q a w :=
  wp_region_held hm h

theorem rg_take {i : Nat} {oi : Oper} {v : Value} {fuel : Nat} {listed : Array Bool} {a : Act} {wk : World} (hi' : ops.toList[i]? = some oi)
    (hs : Region.noSelect ops = true) (hf : Region.free md ops listed i = true) (hr : (Region.ready md ops listed).contains i = true)
    (hQ : ∀ c a w, Q (.panic c) (a.put oi.dst v) w → Q (.panic c) a w) (hw : Region.wanted oi (yielded ops a.tmps) = true)
    (hy : ∀ W, Sb wk W → (execOp a.eval oi).run P W = .ok (.value v) W)
    (h : wpAnyH P md ops Q (Sb wk) fuel (listed.setIfInBounds i true) (a.put oi.dst v) wk) : wpAnyH P md ops Q (Sb wk) (fuel + 1) listed a wk :=
  wpAnyH_take (Array.getElem?_toList.symm.trans hi') hs hf hr hQ (.inl ⟨hw, hy⟩) (Sb.refl wk) h

theorem rg_skip {i : Nat} {oi : Oper} {fuel : Nat} {listed : Array Bool} {a : Act} {wk : World} (hi' : ops.toList[i]? = some oi)
    (hs : Region.noSelect ops = true) (hf : Region.free md ops listed i = true) (hr : (Region.ready md ops listed).contains i = true)
    (hQ : ∀ c a w, Q (.panic c) (a.put oi.dst undef) w → Q (.panic c) a w) (hw : Region.wanted oi (yielded ops a.tmps) = false)
    (h : wpAnyH P md ops Q (Sb wk) fuel (listed.setIfInBounds i true) (a.put oi.dst undef) wk) : wpAnyH P md ops Q (Sb wk) (fuel + 1) listed a wk :=
  wpAnyH_take (Array.getElem?_toList.symm.trans hi') hs hf hr hQ (.inr ⟨hw, rfl⟩) (Sb.refl wk) h

/-- A call that alone may come up. -/
theorem rg_call {i : Nat} {o : Oper} {f : FuncId} {args : Array Value} {fuel : Nat} {listed : Array Bool} {a : Act} {wk : World}
    (hr : Region.ready md ops listed = [i]) (hi' : ops.toList[i]? = some o) (hw : Region.wanted o (yielded ops a.tmps) = true)
    (hrun : (execOp a.eval o).run P wk = .ok (.enter f args) wk)
    (hc : Calls P f args wk fun e w' => ∃ v, e = .returned v ∧ Below wk.heap.size wk w' ∧ wpAnyH P md ops Q (Sb w') fuel (listed.setIfInBounds i true) (a.put o.dst v) w') :
    wpAnyH P md ops Q (Sb wk) (fuel + 1) listed a wk := by
  have hi : ops[i]? = some o := Array.getElem?_toList.symm.trans hi'
  refine wpAnyH_all hr (by simp) fun j hj => ?_
  obtain rfl : j = i := by simpa using hj
  unfold wpOp
  simp only [hi, hw, if_true]
  refine .inl ?_
  unfold Oper.wp
  rw [hrun, Oper.upon_enter]
  refine Calls.mono hc ?_
  rintro e w' ⟨v, rfl, hb, hk⟩
  exact ⟨hb, wpAnyH_mono (fun W hW => below_next hW hb) _ _ _ _ hk⟩

/-- An operation that makes memory and alone may come up. -/
theorem rg_make {i : Nat} {o : Oper} {v : Value} {w' : World} {fuel : Nat} {listed : Array Bool} {a : Act} {wk : World}
    (hr : Region.ready md ops listed = [i]) (hi' : ops.toList[i]? = some o) (hw : Region.wanted o (yielded ops a.tmps) = true)
    (hrun : (execOp a.eval o).run P wk = .ok (.value v) w') (hb : Below wk.heap.size wk w')
    (hk : wpAnyH P md ops Q (Sb w') fuel (listed.setIfInBounds i true) (a.put o.dst v) w') :
    wpAnyH P md ops Q (Sb wk) (fuel + 1) listed a wk := by
  have hi : ops[i]? = some o := Array.getElem?_toList.symm.trans hi'
  refine wpAnyH_all hr (by simp) fun j hj => ?_
  obtain rfl : j = i := by simpa using hj
  unfold wpOp
  simp only [hi, hw, if_true]
  refine .inl ?_
  unfold Oper.wp
  rw [hrun, Oper.upon_value]
  exact ⟨hb, wpAnyH_mono (fun W hW => below_next hW hb) _ _ _ _ hk⟩

theorem rg_done {listed : Array Bool} {a : Act} {wk : World} {fuel : Nat} (hr : Region.ready md ops listed = []) (h : Q .normal a wk) : wpAnyH P md ops Q (Sb wk) fuel listed a wk :=
  wpAnyH_done hr h fuel
end rg
end Go.Proofs.YtdlomggjhclmlaaGreatDoor
