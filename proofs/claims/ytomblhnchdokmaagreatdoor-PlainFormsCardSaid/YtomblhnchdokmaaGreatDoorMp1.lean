/- Mp1: texts of this claim, one behind the other: Base Rg2 Gw Zon Arm. No condition. -/
import Derived.WalkKit
import Derived.Below
import Derived.Lib.Hide
import Derived.Laws.BytesArg
import Derived.Laws.BitsAllLaws
import Derived.Laws.AppendOwnNone
import Derived.Lib.SlBytesConst
import Derived.Deep.QuietTactic
import Derived.BigQuiet
import Derived.IntWalk
import Derived.WalkLawsBesides
import Derived.WalkSpells
import Derived.StillTailTactics
import Derived.Deep.RegionHeld3
import Derived.Deep.RegionLaw
import Derived.Test.YtomblhnchdokmaaGreatDoorProg
import Derived.Deep.MidRow
import Derived.Great.BuildSlice
import Derived.Maps.AppendAt
import Derived.Laws.ResultCell
namespace Go.Proofs.YtomblhnchdokmaaGreatDoor
set_option linter.unusedSimpArgs false
set_option linter.unusedVariables false
open Go.RowKit

/-- The value v is a slice of the bytes l, readable in w. -/
def IsBytes (w : World) (v : Value) (l : List UInt8) : Prop :=
  (v = .slice none 0 0 ∧ l = []) ∨
  ∃ x cap, v = .slice (some x) l.length cap ∧ l.length ≤ cap ∧ cap ≤ maxLen ∧ ∀ i, i < l.length → w.cell? (x.add i) = some (.int .u8 ((l[i]?.getD 0).toNat : Int))

theorem IsBytes.nil (w : World) : IsBytes w (.slice none 0 0) [] := .inl ⟨rfl, rfl⟩

theorem IsBytes.below {w w' : World} {v : Value} {l : List UInt8} (h : IsBytes w v l) (hb : Below w.heap.size w w') : IsBytes w' v l := by
  rcases h with h | ⟨x, cap, rfl, h1, h2, h3⟩
  · exact .inl h
  · refine .inr ⟨x, cap, rfl, h1, h2, fun i hi => ?_⟩
    have := h3 i hi
    rw [hb.cell (World.block_lt_of_cell? w _ this)]
    exact this

theorem IsBytes.shape {w : World} {v : Value} {l : List UInt8} (h : IsBytes w v l) : ∃ a cap, v = .slice a l.length cap ∧ l.length ≤ cap ∧ cap ≤ maxLen := by
  rcases h with ⟨rfl, rfl⟩ | ⟨x, cap, rfl, h1, h2, _⟩
  · exact ⟨none, 0, rfl, Nat.le_refl _, Nat.zero_le _⟩
  · exact ⟨some x, cap, rfl, h1, h2⟩
theorem IsBytes.len_le {w : World} {v : Value} {l : List UInt8} (h : IsBytes w v l) : l.length ≤ 9223372036854775807 := by
  obtain ⟨_, _, _, h1, h2⟩ := h.shape
  unfold maxLen at h2; omega

theorem ret_eq {a b : Value} (h : a = b) : Ending.returned a = .returned b := by rw [h]
theorem int_eq {k : IntKind} {a b : Int} (h : a = b) : Value.int k a = .int k b := by rw [h]
theorem bool_eq {a b : Bool} (h : a = b) : Value.bool a = .bool b := by rw [h]

theorem u8_lt (a : UInt8) : a.toNat < 256 := a.toNat_lt
theorem u8_or_u (a b : UInt8) : bits .or .u8 (a.toNat : Int) (b.toNat : Int) = ((a ||| b).toNat : Int) := by rw [u8_or_nat _ _ (u8_lt a) (u8_lt b), UInt8.toNat_or]
theorem u8_xor_u (a b : UInt8) : bits .xor .u8 (a.toNat : Int) (b.toNat : Int) = ((a ^^^ b).toNat : Int) := by rw [u8_xor_nat _ _ (u8_lt a) (u8_lt b), UInt8.toNat_xor]
theorem u8_and_u (a b : UInt8) : bits .and .u8 (a.toNat : Int) (b.toNat : Int) = ((a &&& b).toNat : Int) := by rw [u8_and_nat _ _ (u8_lt a) (u8_lt b), UInt8.toNat_and]

theorem below_drewN' {B : Nat} {a w : World} (h : Below B a w) (n : Nat) : Below B a (w.drewN n) := h.trans (⟨rfl, rfl, rfl, Nat.le_refl _, fun _ _ => rfl⟩)

/-- src is nil, or a slice of the cells news. -/
def SrcOf (w : World) (size : Nat) (src : Value) (m : Nat) (news : List Value) : Prop :=
  (src = .slice none 0 0 ∧ m = 0 ∧ news = []) ∨
  ∃ ad c, src = .slice (some ad) m c ∧ news.length = m * size ∧ (∀ j u, news[j]? = some u → w.cell? (ad.add j) = some u) ∧ ∀ u ∈ news, u.oneCell' = true

/-- t is the type of slices of e; an element takes so many cells and bytes. -/
structure ElemOf (P : Program) (t e : TypeId) (size bytes : Nat) (z : Value) : Prop where
  ht : P.underlying t = some (.slice e)
  ex : ∃ i, P.info? e = some i ∧ i.zero = some z ∧ i.size = size ∧ i.bytes = bytes
  hzs : z.cells.size = size
  pos : 0 < size
  one : 1 ≤ bytes

theorem wp_append_from {P : Program} {w : World} {o : Oper} {a : Act} {K : Act → World → Prop} {Q : Exit → Act → World → Prop} (s x : Operand) (t : TypeId)
    (ho : o.op = .call { callee := .builtin .append, args := #[s, x], argTypes := #[t, t] })
    (base : Nat) {e : TypeId} {size bytes : Nat} {z : Value} (hE : ElemOf P t e size bytes z)
    {v : Value} {n : Nat} {xs : List Value} (hs : a.eval s = v) (hown : w.ownsRow base e size v n xs)
    {src : Value} {m : Nat} {news : List Value} (hx : a.eval x = src) (hsrc : SrcOf w size src m news)
    (hbytes : (n + m) * bytes ≤ 140737488355328) (hbase : base ≤ w.heap.size)
    (h : ∀ v' w', w'.ownsRow base e size v' (n + m) (xs ++ news) → w.grownBy w' v.ownBlock → Below base w w' → K (a.put o.dst v') w') : o.wp P a w K Q := by
  obtain ⟨ht, ⟨i, hi, hz, hsize, hby⟩, hzs, hpos, hone⟩ := hE
  have hlt := hown.lt
  have h63 : n + m ≤ maxLen := by
    have := Nat.le_trans (Nat.le_mul_of_pos_right (n + m) hone) hbytes
    unfold maxLen; omega
  rcases hsrc with ⟨rfl, rfl, rfl⟩ | ⟨ad, c, rfl, hl, hnews, h1⟩
  · have hrun := run_append_owned_none (P := P) (w := w) base t o.type e i size ht hi v n xs hown
    have hk := h v w (by simpa using hown) ⟨rfl, rfl, rfl, Nat.le_refl _, fun _ _ _ => rfl⟩ (Below.refl _ _)
    unfold Oper.wp
    simp [execOp, ho, resolve, invoke, builtin, hs, hx, hrun, Result.andThen]
    exact hk
  · refine wp_append_own w s x t ho base e i z size bytes ht hi hz hsize hby hzs hpos v n xs hs hown ad m c news hx hl hnews h1 h63 hbytes hbase ?_
    intro v' w' ho' hg' _
    exact h v' w' ho' hg' ((Below.refl base w).grown hg' hbase (fun k hk => (hlt k hk).1))

theorem wpList_append_from {P : Program} {w : World} {ops : Array Oper} {rest : List Oper} {o : Oper} {a : Act} {Q : Exit → Act → World → Prop} (hgd : o.guard = none) (s x : Operand) (t : TypeId)
    (ho : o.op = .call { callee := .builtin .append, args := #[s, x], argTypes := #[t, t] })
    (base : Nat) {e : TypeId} {size bytes : Nat} {z : Value} (hE : ElemOf P t e size bytes z)
    {v : Value} {n : Nat} {xs : List Value} (hs : a.eval s = v) (hown : w.ownsRow base e size v n xs)
    {src : Value} {m : Nat} {news : List Value} (hx : a.eval x = src) (hsrc : SrcOf w size src m news)
    (hbytes : (n + m) * bytes ≤ 140737488355328) (hbase : base ≤ w.heap.size)
    (h : ∀ v' w', w'.ownsRow base e size v' (n + m) (xs ++ news) → w.grownBy w' v.ownBlock → Below base w w' → wpList P ops Q rest (a.put o.dst v') w') : wpList P ops Q (o :: rest) a w :=
  wpList_plain hgd fun _ hK => wp_append_from s x t ho base hE hs hown hx hsrc hbytes hbase fun v' w' h1 h2 h3 => hK _ _ (h v' w' h1 h2 h3)

/-- The same, at a step of a region that draws its order. -/
theorem step_append_from {P : Program} {w : World} {ops : Array Oper} {o : Oper} {a : Act} {K : Act → World → Prop} {Q : Exit → Act → World → Prop} {E : Prop} (hgd : o.guard = none) (s x : Operand) (t : TypeId)
    (ho : o.op = .call { callee := .builtin .append, args := #[s, x], argTypes := #[t, t] })
    (base : Nat) {e : TypeId} {size bytes : Nat} {z : Value} (hE : ElemOf P t e size bytes z)
    {v : Value} {n : Nat} {xs : List Value} (hs : a.eval s = v) (hown : w.ownsRow base e size v n xs)
    {src : Value} {m : Nat} {news : List Value} (hx : a.eval x = src) (hsrc : SrcOf w size src m news)
    (hbytes : (n + m) * bytes ≤ 140737488355328) (hbase : base ≤ w.heap.size)
    (h : ∀ v' w', w'.ownsRow base e size v' (n + m) (xs ++ news) → w.grownBy w' v.ownBlock → Below base w w' → K (a.put o.dst v') w') :
    if Region.wanted o (yielded ops a.tmps) = true then Oper.wp P o a w K Q else E := by
  have hw : Region.wanted o (yielded ops a.tmps) = true := by simp [Region.wanted, hgd]
  rw [if_pos hw]
  exact wp_append_from s x t ho base hE hs hown hx hsrc hbytes hbase h

theorem foldl_push_u8 : ∀ (l : List UInt8) (s : ByteArray), (l.map fun b => (b.toNat : Int)).foldl (fun r n => r.push (UInt8.ofNat n.toNat)) s = ⟨s.data ++ l.toArray⟩
  | [], s => by simp
  | b :: l, s => by
    rw [List.map_cons, List.foldl_cons, foldl_push_u8 l]
    simp [ByteArray.push]

/-- 'string(b)' -/
theorem run_string_bytes {P : Program} {w : World} {src dst e : TypeId} (hs : P.underlying src = some (.slice e)) (he : P.underlying e = some (.int .u8)) (hd : P.underlying dst = some .string) {v : Value} {l : List UInt8} (h : IsBytes w v l) :
    (convert src dst v).run P w = .ok (.string ⟨l.toArray⟩) w := by
  rcases h with ⟨rfl, rfl⟩ | ⟨x, cap, rfl, h1, h2, h3⟩
  · exact run_convert_bytes_nil w src e hs he 0 0 dst hd
  · have hl : (loadCells x l.length).run P w = .ok ((l.map fun b => (b.toNat : Int)).map (Value.int .u8)).toArray w := by
      have := run_loadCells_list (P := P) w x ((l.map fun b => (b.toNat : Int)).map (Value.int .u8)) (fun j v hj => by
        have hjl : j < l.length := by
          rcases Nat.lt_or_ge j l.length with h | h
          · exact h
          · simp [List.getElem?_eq_none h] at hj
        rw [h3 j hjl]
        simp [hjl] at hj
        simp [hjl, hj])
      simpa using this
    rw [run_convert_bytes_string w src dst e _ _ cap hs he hd, run_bytesToString w _ _ cap _ hl, foldl_push_u8]
    simp [ByteArray.empty, ByteArray.emptyWithCapacity]
    rfl

theorem run_equalIn_six {P : Program} (w : World) (n : Nat) (t e : TypeId) (ht : P.underlying t = some (.array 6 e)) (he : P.underlying e = some (.int .u8)) (hi : (P.info? e).map (·.size) = some 1) (a b c d e' f a1 b1 c1 d1 e1 f1 : Int) :
    (Op.equalIn (n + 2) t (.agg #[.int .u8 a, .int .u8 b, .int .u8 c, .int .u8 d, .int .u8 e', .int .u8 f]) (.agg #[.int .u8 a1, .int .u8 b1, .int .u8 c1, .int .u8 d1, .int .u8 e1, .int .u8 f1])).run P w = .ok (a == a1 && (b == b1 && (c == c1 && (d == d1 && (e' == e1 && f == f1))))) w := by
  obtain ⟨i, hi1, hi2⟩ : ∃ i, P.info? e = some i ∧ i.size = 1 := by
    cases h : P.info? e with
    | none => simp [h] at hi
    | some i => simp [h] at hi; exact ⟨i, rfl, hi⟩
  unfold Op.equalIn
  simp only [Sem.run_bind, run_underlying ht, Result.andThen_ok]
  simp [sizeOf, typeInfo, hi1, hi2, Std.Legacy.Range.forIn_eq_forIn_range', List.range', part, isAgg, run_underlying he, run_equalIn_int w n e _ _ _ _ he]
  by_cases h1 : a = a1
  · by_cases h2 : b = b1
    · by_cases h3 : c = c1
      · by_cases h4 : d = d1
        · by_cases h5 : e' = e1
          · by_cases h6 : f = f1 <;> simp [h1, h2, h3, h4, h5, h6]
          · simp [h1, h2, h3, h4, h5]
        · simp [h1, h2, h3, h4]
      · simp [h1, h2, h3]
    · simp [h1, h2]
  · simp [h1]

/-- 'a[l:h]' of an array of bytes behind a pointer -/
theorem run_slice_array {P : Program} {t e : TypeId} {n : Nat} (ht : P.underlying t = some (.array n e)) (hs : (P.info? e).map (·.size) = some 1) (B : Nat) (l h : Nat) (h1 : l ≤ h) (h2 : h ≤ n) (h3 : l < n) (kl kh : IntKind) (W : World) :
    (Instr.sliceAt t (.pointer (some ⟨B, 0, none⟩)) (some (.int kl (l : Int))) (some (.int kh (h : Int))) none).run P W = .ok (.slice (some ⟨B, l, none⟩) (h - l) (n - l)) W := by
  obtain ⟨i, hi1, hi2⟩ : ∃ i, P.info? e = some i ∧ i.size = 1 := by
    cases h : P.info? e with
    | none => simp [h] at hs
    | some i => simp [h] at hs; exact ⟨i, rfl, hs⟩
  have hn : ¬ n = l := by omega
  have hadd : (⟨B, 0, none⟩ : Addr).add l = ⟨B, l, none⟩ := by unfold Addr.add; split <;> simp_all
  simp [Instr.sliceAt, Instr.sureAddr, run_underlying ht, Instr.sliceBounds, run_sliceBound, sizeOf, typeInfo, hi1, hi2, hn, hadd, (by omega : (0 : Int) ≤ l), (by omega : (0 : Int) ≤ h), (by omega : (h : Int) ≤ n), (by omega : (l : Int) ≤ h)]

theorem alloc2 (w : World) (o1 o2 : Obj) : ((w.alloc o1).alloc o2).heap[w.heap.size]? = some o1 ∧ ((w.alloc o1).alloc o2).heap[w.heap.size + 1]? = some o2 ∧ ((w.alloc o1).alloc o2).heap.size = w.heap.size + 1 + 1 := by
  refine ⟨?_, ?_, by simp⟩
  · rw [heap_alloc_old _ _ (by simp)]; exact heap_alloc_new w o1
  · have := heap_alloc_new (w.alloc o1) o2
    rwa [World.size_alloc] at this
theorem alloc3 (w : World) (o1 o2 o3 : Obj) : (((w.alloc o1).alloc o2).alloc o3).heap[w.heap.size]? = some o1 ∧ (((w.alloc o1).alloc o2).alloc o3).heap[w.heap.size + 1]? = some o2 ∧
    (((w.alloc o1).alloc o2).alloc o3).heap[w.heap.size + 1 + 1]? = some o3 ∧ (((w.alloc o1).alloc o2).alloc o3).heap.size = w.heap.size + 1 + 1 + 1 ∧ Below w.heap.size w (((w.alloc o1).alloc o2).alloc o3) := by
  obtain ⟨h1, h2, h3⟩ := alloc2 w o1 o2
  refine ⟨?_, ?_, ?_, by simp, (((Below.refl _ _).alloc (Nat.le_refl _) _).alloc (by simp) _).alloc (by simp; omega) _⟩
  · rw [heap_alloc_old _ _ (by rw [h3]; omega)]; exact h1
  · rw [heap_alloc_old _ _ (by rw [h3]; omega)]; exact h2
  · have := heap_alloc_new ((w.alloc o1).alloc o2) o3
    rwa [h3] at this

theorem six_cells {w : World} {g : Nat} {t : TypeId} {a b c d e f : Value} (h : w.heap[g]? = some (.cells #[a, b, c, d, e, f] t (0, 0))) :
    w.cell? ⟨g, 0, none⟩ = some a ∧ w.cell? ⟨g, 1, none⟩ = some b ∧ w.cell? ⟨g, 2, none⟩ = some c ∧ w.cell? ⟨g, 3, none⟩ = some d ∧ w.cell? ⟨g, 4, none⟩ = some e ∧ w.cell? ⟨g, 5, none⟩ = some f ∧ ∀ j, w.frozen? ⟨g, j, none⟩ = false := by
  refine ⟨?_, ?_, ?_, ?_, ?_, ?_, fun j => frozen_of_row w g j _ t h⟩ <;> (rw [cell_of_row w g _ _ t _ h]; rfl)

theorem str_beq (L L' : List UInt8) : ((⟨L.toArray⟩ : ByteArray).toList == (⟨L'.toArray⟩ : ByteArray).toList) = (L == L') := by
  rw [ByteArray.toList_eq, ByteArray.toList_eq]

theorem below_next {w W w2 : World} (h : Below W.heap.size W w2) (hB : Below w.heap.size w W) : Below w.heap.size w w2 := hB.trans (h.mono hB.size)
theorem below_drewB {w W : World} (h : Below w.drew.heap.size w.drew W) : Below w.heap.size w W := (Below.refl w.heap.size w).drew.trans h
theorem cell_below {w W : World} {a : Addr} {v : Value} (h : w.cell? a = some v) (hB : Below w.heap.size w W) : W.cell? a = some v := by
  rw [hB.cell (World.block_lt_of_cell? w _ h)]; exact h

/-- a block of cells that was just made, as the source of an append -/
theorem src_block {w : World} {B : Nat} {cs : Array Value} {t : TypeId} {fr : Nat × Nat} (size m c : Nat) (hb : w.heap[B]? = some (.cells cs t fr)) (hl : cs.size = m * size) (h1 : ∀ u ∈ cs.toList, u.oneCell' = true) : SrcOf w size (.slice (some ⟨B, 0, none⟩) m c) m cs.toList := by
  refine .inr ⟨⟨B, 0, none⟩, c, rfl, by simpa using hl, fun j u hu => ?_, h1⟩
  have hadd : (⟨B, 0, none⟩ : Addr).add j = ⟨B, j, none⟩ := by unfold Addr.add; split <;> simp_all
  rw [hadd, cell_of_row w B j cs t fr hb]
  simpa using hu

abbrev bv (b : UInt8) : Value := .int .u8 (b.toNat : Int)

theorem IsBytes.src {w : World} {v : Value} {l : List UInt8} (h : IsBytes w v l) : SrcOf w 1 v l.length (l.map bv) := by
  rcases h with ⟨rfl, rfl⟩ | ⟨x, cap, rfl, h1, h2, h3⟩
  · exact .inl ⟨rfl, rfl, rfl⟩
  · refine .inr ⟨x, cap, rfl, by simp, ?_, ?_⟩
    · intro j u hu
      rw [List.getElem?_map] at hu
      cases hj : l[j]? with
      | none => simp [hj] at hu
      | some b =>
        simp [hj] at hu
        subst hu
        have hlt : j < l.length := by
          rcases Nat.lt_or_ge j l.length with h | h
          · exact h
          · simp [List.getElem?_eq_none h] at hj
        rw [h3 j hlt, hj]; rfl
    · intro u hu
      obtain ⟨_, _, rfl⟩ := List.mem_map.1 hu
      rfl

theorem addr_add (x : Addr) (a b : Nat) : (x.add a).add b = x.add (a + b) := by
  unfold Addr.add
  by_cases h : a = 0 <;> by_cases h' : b = 0 <;> simp [h, h', Nat.add_assoc]

/-- 'v[k:]' at the end of the room keeps the address. -/
theorem src_drop_all {w : World} (x : Addr) (l : List UInt8) : SrcOf w 1 (.slice (some x) 0 0) 0 ((l.drop l.length).map bv) := by
  rw [List.drop_length]
  exact .inr ⟨x, 0, rfl, rfl, fun j u hu => by simp at hu, fun u hu => by simp at hu⟩
/-- 'v[k:]' -/
theorem src_drop {w : World} {x : Addr} {l : List UInt8} (h3 : ∀ i, i < l.length → w.cell? (x.add i) = some (.int .u8 ((l[i]?.getD 0).toNat : Int))) (k c : Nat) :
    SrcOf w 1 (.slice (some (x.add k)) (l.length - k) c) (l.length - k) ((l.drop k).map bv) := by
  refine .inr ⟨x.add k, c, rfl, by simp, ?_, ?_⟩
  · intro j u hu
    rw [List.getElem?_map, List.getElem?_drop] at hu
    by_cases hj : k + j < l.length
    · simp [hj] at hu
      subst hu
      rw [addr_add, h3 _ hj]
      simp [hj]
    · simp [hj] at hu
  · intro u hu
    obtain ⟨_, _, rfl⟩ := List.mem_map.1 hu
    rfl
theorem SrcOf.alloc {w : World} {size : Nat} {src : Value} {m : Nat} {news : List Value} (h : SrcOf w size src m news) (o : Obj) : SrcOf (w.alloc o) size src m news := by
  rcases h with h | ⟨ad, c, rfl, h1, h2, h3⟩
  · exact .inl h
  · exact .inr ⟨ad, c, rfl, h1, fun j u hu => (World.cell?_alloc_lt _ _ _ (World.block_lt_of_cell? w _ (h2 j u hu))).trans (h2 j u hu), h3⟩
/-- '[]T{}' -/
theorem own_empty (w : World) (base : Nat) (hb : base ≤ w.heap.size) (e : TypeId) (size : Nat) : (w.alloc (.cells #[] e)).ownsRow base e size (.slice (some ⟨w.heap.size, 0, none⟩) 0 0) 0 [] :=
  World.ownsRow_made w #[] 0 hb (by simp) (by simp)
/-- a block of bytes that was just made -/
theorem bytes_block {w : World} {B : Nat} {t : TypeId} {fr : Nat × Nat} (l : List UInt8) (c : Nat) (hb : w.heap[B]? = some (.cells (l.map bv).toArray t fr)) (h1 : l.length ≤ c) (h2 : c ≤ maxLen) : IsBytes w (.slice (some ⟨B, 0, none⟩) l.length c) l := by
  refine .inr ⟨⟨B, 0, none⟩, c, rfl, h1, h2, fun i hi => ?_⟩
  have hadd : (⟨B, 0, none⟩ : Addr).add i = ⟨B, i, none⟩ := by unfold Addr.add; split <;> simp_all
  rw [hadd, cell_of_row w B i _ t fr hb]
  simp [hi]

/-- A row of bytes that the call owns reads as these bytes. -/
theorem own_bytes {w : World} {base : Nat} {e : TypeId} {v : Value} {n : Nat} {l : List UInt8} (h : w.ownsRow base e 1 v n (l.map bv)) : IsBytes w v l := by
  have hn : n = l.length := by have := h.1; simp at this; exact this.symm
  subst hn
  have hc := h
  obtain ⟨_, h⟩ := h
  rcases h with ⟨rfl, h⟩ | ⟨g, cap, cur, rfl, _, hg, h1, h2, h3, h4⟩
  · exact .inl ⟨rfl, List.eq_nil_of_length_eq_zero h⟩
  · refine .inr ⟨⟨g, 0, none⟩, cap, rfl, h1, h2, fun i hi => ?_⟩
    refine hc.cells (g := g) rfl i _ ?_
    rw [List.getElem?_map]
    simp [hi]

theorem own_drewN {w : World} {base : Nat} {e : TypeId} {size : Nat} {v : Value} {n : Nat} {xs : List Value} (h : w.ownsRow base e size v n xs) (m : Nat) : (w.drewN m).ownsRow base e size v n xs := h

theorem own_below {w w' : World} {base : Nat} {e : TypeId} {size : Nat} {v : Value} {n : Nat} {xs : List Value} (h : w.ownsRow base e size v n xs) (hb : Below w.heap.size w w') : w'.ownsRow base e size v n xs := by
  refine ⟨h.1, ?_⟩
  rcases h.2 with h2 | ⟨g, cap, cur, hv, hg, hh, r⟩
  · exact .inl h2
  · exact .inr ⟨g, cap, cur, hv, hg, by rw [hb.block g (Array.getElem?_eq_some_iff.1 hh).1]; exact hh, r⟩

theorem own_frozen {w : World} {base : Nat} {e : TypeId} {size : Nat} {g n c : Nat} {xs : List Value} (h : w.ownsRow base e size (.slice (some ⟨g, 0, none⟩) n c) n xs) (j : Nat) : w.frozen? ⟨g, j, none⟩ = false := by
  obtain ⟨_, h⟩ := h
  rcases h with ⟨h, _⟩ | ⟨g', cap, cur, hv, _, hg, _⟩
  · cases h
  · cases hv
    simp [World.frozen?, hg]

theorem own_cell {w : World} {base : Nat} {e : TypeId} {size : Nat} {g n c : Nat} {xs : List Value} (h : w.ownsRow base e size (.slice (some ⟨g, 0, none⟩) n c) n xs) (j : Nat) (u : Value) (hu : xs[j]? = some u) : w.cell? ⟨g, j, none⟩ = some u := by
  have := h.cells (g := g) rfl j u hu
  rwa [show (⟨g, 0, none⟩ : Addr).add j = ⟨g, j, none⟩ by unfold Addr.add; split <;> simp_all] at this

theorem own_set {w : World} {base : Nat} {e : TypeId} {size : Nat} {g n c : Nat} {xs : List Value} (h : w.ownsRow base e size (.slice (some ⟨g, 0, none⟩) n c) n xs) (j : Nat) (u : Value) :
    (w.setCell ⟨g, j, none⟩ u).ownsRow base e size (.slice (some ⟨g, 0, none⟩) n c) n (xs.set j u) := by
  obtain ⟨hl, h⟩ := h
  refine ⟨by simpa using hl, ?_⟩
  rcases h with ⟨h, _⟩ | ⟨g', cap, cur, hv, hb, hg, h1, h2, h3, h4⟩
  · cases h
  · cases hv
    refine .inr ⟨g, c, cur.setIfInBounds j u, rfl, hb, ?_, h1, h2, by simpa using h3, ?_⟩
    · simp [World.setCell, Array.getElem?_modify, hg]
    · rw [Array.toList_setIfInBounds, List.take_set, h4]

theorem run_make_own_full {P : Program} {t e : TypeId} {size bytes : Nat} {z : Value} (hE : ElemOf P t e size bytes z) (w : World) (base : Nat) (kl kc : IntKind) (n : Nat) (hbytes : bytes * n ≤ 281474976710656) (h63 : n ≤ maxLen) (hbase : base ≤ w.heap.size) :
    ∃ w', (Instr.makeSlice t (.int kl (n : Int)) (.int kc (n : Int))).run P w = .ok (.slice (some ⟨w.heap.size, 0, none⟩) n n) w' ∧
      w'.ownsRow base e size (.slice (some ⟨w.heap.size, 0, none⟩) n n) n (madeCells z.cells (n * size)).toList ∧ Below w.heap.size w w' ∧ w'.heap.size = w.heap.size + 1 := by
  obtain ⟨ht, ⟨i, hi, hz, rfl, rfl⟩, hzs, hpos, hone⟩ := hE
  have h63' : (n : Int) ≤ 9223372036854775807 := by unfold maxLen at h63; omega
  have hr := run_make (P := P) w t e i z ht hi hz kl kc (n : Int) (n : Int) (by omega) (Int.le_refl _) (by rw [← Int.natCast_mul]; exact Int.ofNat_le.2 hbytes) h63'
  simp only [Int.toNat_natCast] at hr
  have hsz : (madeCells z.cells (n * i.size)).size = n * i.size := by
    simp [madeCells]
  refine ⟨_, hr, ⟨by simpa using hsz, .inr ⟨w.heap.size, n, _, rfl, hbase, heap_alloc_new w _, Nat.le_refl _, h63, hsz, ?_⟩⟩, (Below.refl _ _).alloc (Nat.le_refl _) _, by simp⟩
  rw [List.take_of_length_le (by simp [hsz])]

/-! A region that draws its order, walked once in the order of the text: reads are taken first, from one call to the next. -/
section rg
variable {P : Program} {ops : Array Oper} {Q : Exit → Act → World → Prop} {md : Region.Mode}

/-- what was there at wk is there still -/
def Sb (wk W : World) : Prop := Below wk.heap.size wk W

theorem Sb.refl (w : World) : Sb w w := Below.refl _ _

theorem wpAnyH_mono {S S2 : World → Prop} (h : ∀ w, S2 w → S w) : ∀ (fuel : Nat) (listed : Array Bool) (a : Act) (w : World), wpAnyH P md ops Q S2 fuel listed a w → wpAnyH P md ops Q S fuel listed a w
  | 0, _, _, _, hh => hh
  | fuel + 1, _, _, _, hh => ⟨hh.1, fun i hi => wpOp_mono (fun a' w' h' => ⟨h _ h'.1, wpAnyH_mono h fuel _ a' w' h'.2⟩) (hh.2 i hi)⟩

theorem rg_begin {id : Nat} {a : Act} {w : World} (hm : P.follows .mixedOrders = true)
    (h : wpAnyH P .any ops Q (Sb w.drew) ops.size (Array.replicate ops.size false) a w.drew) : (Code.region id ops true).wp P Q a w :=
  wp_region_held hm h

theorem rg_take {i : Nat} {oi : Oper} {v : Value} {fuel : Nat} {listed : Array Bool} {a : Act} {wk : World} (hi' : ops.toList[i]? = some oi)
    (hs : Region.noSelect ops = true) (hf : Region.free md ops listed i = true) (hr : (Region.ready md ops listed).contains i = true)
    (hQ : ∀ c a w, Q (.panic c) (a.put oi.dst v) w → Q (.panic c) a w) (hw : Region.wanted oi (yielded ops a.tmps) = true)
    (hy : ∀ W, Sb wk W → (execOp a.eval oi).run P W = .ok (.value v) W)
    (h : wpAnyH P md ops Q (Sb wk) fuel (listed.setIfInBounds i true) (a.put oi.dst v) wk) : wpAnyH P md ops Q (Sb wk) (fuel + 1) listed a wk :=
  wpAnyH_take (Array.getElem?_toList.symm.trans hi') hs hf hr hQ (.inl ⟨hw, hy⟩) (Sb.refl wk) h

theorem rg_skip {i : Nat} {oi : Oper} {fuel : Nat} {listed : Array Bool} {a : Act} {wk : World} (hi' : ops.toList[i]? = some oi)
    (hs : Region.noSelect ops = true) (hf : Region.free md ops listed i = true) (hr : (Region.ready md ops listed).contains i = true)
    (hQ : ∀ c a w, Q (.panic c) (a.put oi.dst undef) w → Q (.panic c) a w) (hw : Region.wanted oi (yielded ops a.tmps) = false)
    (h : wpAnyH P md ops Q (Sb wk) fuel (listed.setIfInBounds i true) (a.put oi.dst undef) wk) : wpAnyH P md ops Q (Sb wk) (fuel + 1) listed a wk :=
  wpAnyH_take (Array.getElem?_toList.symm.trans hi') hs hf hr hQ (.inr ⟨hw, rfl⟩) (Sb.refl wk) h

/-- A call that alone may come up. -/
theorem rg_call {i : Nat} {o : Oper} {f : FuncId} {args : Array Value} {fuel : Nat} {listed : Array Bool} {a : Act} {wk : World}
    (hr : Region.ready md ops listed = [i]) (hi' : ops.toList[i]? = some o) (hw : Region.wanted o (yielded ops a.tmps) = true)
    (hrun : (execOp a.eval o).run P wk = .ok (.enter f args) wk)
    (hc : Calls P f args wk fun e w' => ∃ v, e = .returned v ∧ Below wk.heap.size wk w' ∧ wpAnyH P md ops Q (Sb w') fuel (listed.setIfInBounds i true) (a.put o.dst v) w') :
    wpAnyH P md ops Q (Sb wk) (fuel + 1) listed a wk := by
  have hi : ops[i]? = some o := Array.getElem?_toList.symm.trans hi'
  refine wpAnyH_all hr (by simp) fun j hj => ?_
  obtain rfl : j = i := by simpa using hj
  unfold wpOp
  simp only [hi, hw, if_true]
  refine .inl ?_
  unfold Oper.wp
  rw [hrun, Oper.upon_enter]
  refine Calls.mono hc ?_
  rintro e w' ⟨v, rfl, hb, hk⟩
  exact ⟨hb, wpAnyH_mono (fun W hW => below_next hW hb) _ _ _ _ hk⟩

/-- An operation that makes memory and alone may come up. -/
theorem rg_make {i : Nat} {o : Oper} {v : Value} {w' : World} {fuel : Nat} {listed : Array Bool} {a : Act} {wk : World}
    (hr : Region.ready md ops listed = [i]) (hi' : ops.toList[i]? = some o) (hw : Region.wanted o (yielded ops a.tmps) = true)
    (hrun : (execOp a.eval o).run P wk = .ok (.value v) w') (hb : Below wk.heap.size wk w')
    (hk : wpAnyH P md ops Q (Sb w') fuel (listed.setIfInBounds i true) (a.put o.dst v) w') :
    wpAnyH P md ops Q (Sb wk) (fuel + 1) listed a wk := by
  have hi : ops[i]? = some o := Array.getElem?_toList.symm.trans hi'
  refine wpAnyH_all hr (by simp) fun j hj => ?_
  obtain rfl : j = i := by simpa using hj
  unfold wpOp
  simp only [hi, hw, if_true]
  refine .inl ?_
  unfold Oper.wp
  rw [hrun, Oper.upon_value]
  exact ⟨hb, wpAnyH_mono (fun W hW => below_next hW hb) _ _ _ _ hk⟩

theorem rg_done {listed : Array Bool} {a : Act} {wk : World} {fuel : Nat} (hr : Region.ready md ops listed = []) (h : Q .normal a wk) : wpAnyH P md ops Q (Sb wk) fuel listed a wk :=
  wpAnyH_done hr h fuel
end rg
end Go.Proofs.YtomblhnchdokmaaGreatDoor

namespace Go.Proofs.YtomblhnchdokmaaGreatDoor
set_option linter.unusedSimpArgs false
set_option linter.unusedVariables false
open Go.RowKit
section rg
variable {P : Program} {ops : Array Oper} {Q : Exit → Act → World → Prop} {md : Region.Mode} {B : Nat}

/-- what was there below B at wk is there still -/
def Sn (B : Nat) (wk W : World) : Prop := Below B wk W

theorem rn_begin (B : Nat) {id : Nat} {a : Act} {w : World} (hm : P.follows .mixedOrders = true)
    (h : wpAnyH P .any ops Q (Sn B w.drew) ops.size (Array.replicate ops.size false) a w.drew) : (Code.region id ops true).wp P Q a w :=
  wp_region_held hm h

theorem rn_take {i : Nat} {oi : Oper} {v : Value} {fuel : Nat} {listed : Array Bool} {a : Act} {wk : World} (hi' : ops.toList[i]? = some oi)
    (hs : Region.noSelect ops = true) (hf : Region.free md ops listed i = true) (hr : (Region.ready md ops listed).contains i = true)
    (hQ : ∀ c a w, Q (.panic c) (a.put oi.dst v) w → Q (.panic c) a w) (hw : Region.wanted oi (yielded ops a.tmps) = true)
    (hy : ∀ W, Sn B wk W → (execOp a.eval oi).run P W = .ok (.value v) W)
    (h : wpAnyH P md ops Q (Sn B wk) fuel (listed.setIfInBounds i true) (a.put oi.dst v) wk) : wpAnyH P md ops Q (Sn B wk) (fuel + 1) listed a wk :=
  wpAnyH_take (Array.getElem?_toList.symm.trans hi') hs hf hr hQ (.inl ⟨hw, hy⟩) (Below.refl _ wk) h

theorem rn_skip {i : Nat} {oi : Oper} {fuel : Nat} {listed : Array Bool} {a : Act} {wk : World} (hi' : ops.toList[i]? = some oi)
    (hs : Region.noSelect ops = true) (hf : Region.free md ops listed i = true) (hr : (Region.ready md ops listed).contains i = true)
    (hQ : ∀ c a w, Q (.panic c) (a.put oi.dst undef) w → Q (.panic c) a w) (hw : Region.wanted oi (yielded ops a.tmps) = false)
    (h : wpAnyH P md ops Q (Sn B wk) fuel (listed.setIfInBounds i true) (a.put oi.dst undef) wk) : wpAnyH P md ops Q (Sn B wk) (fuel + 1) listed a wk :=
  wpAnyH_take (Array.getElem?_toList.symm.trans hi') hs hf hr hQ (.inr ⟨hw, rfl⟩) (Below.refl _ wk) h

theorem rn_call {i : Nat} {o : Oper} {f : FuncId} {args : Array Value} {fuel : Nat} {listed : Array Bool} {a : Act} {wk : World}
    (hr : Region.ready md ops listed = [i]) (hi' : ops.toList[i]? = some o) (hw : Region.wanted o (yielded ops a.tmps) = true)
    (hrun : (execOp a.eval o).run P wk = .ok (.enter f args) wk)
    (hc : Calls P f args wk fun e w' => ∃ v, e = .returned v ∧ Below B wk w' ∧ wpAnyH P md ops Q (Sn B w') fuel (listed.setIfInBounds i true) (a.put o.dst v) w') :
    wpAnyH P md ops Q (Sn B wk) (fuel + 1) listed a wk := by
  have hi : ops[i]? = some o := Array.getElem?_toList.symm.trans hi'
  refine wpAnyH_all hr (by simp) fun j hj => ?_
  obtain rfl : j = i := by simpa using hj
  unfold wpOp
  simp only [hi, hw, if_true]
  refine .inl ?_
  unfold Oper.wp
  rw [hrun, Oper.upon_enter]
  refine Calls.mono hc ?_
  rintro e w' ⟨v, rfl, hb, hk⟩
  exact ⟨hb, wpAnyH_mono (fun W hW => Below.trans hb hW) _ _ _ _ hk⟩

theorem rn_make {i : Nat} {o : Oper} {v : Value} {w' : World} {fuel : Nat} {listed : Array Bool} {a : Act} {wk : World}
    (hr : Region.ready md ops listed = [i]) (hi' : ops.toList[i]? = some o) (hw : Region.wanted o (yielded ops a.tmps) = true)
    (hrun : (execOp a.eval o).run P wk = .ok (.value v) w') (hb : Below B wk w')
    (hk : wpAnyH P md ops Q (Sn B w') fuel (listed.setIfInBounds i true) (a.put o.dst v) w') :
    wpAnyH P md ops Q (Sn B wk) (fuel + 1) listed a wk := by
  have hi : ops[i]? = some o := Array.getElem?_toList.symm.trans hi'
  refine wpAnyH_all hr (by simp) fun j hj => ?_
  obtain rfl : j = i := by simpa using hj
  unfold wpOp
  simp only [hi, hw, if_true]
  refine .inl ?_
  unfold Oper.wp
  rw [hrun, Oper.upon_value]
  exact ⟨hb, wpAnyH_mono (fun W hW => Below.trans hb hW) _ _ _ _ hk⟩

/-- An append that alone may come up. -/
theorem rn_append {i : Nat} {o : Oper} {fuel : Nat} {listed : Array Bool} {a : Act} {wk : World}
    (hr : Region.ready md ops listed = [i]) (hi' : ops.toList[i]? = some o) (hw : Region.wanted o (yielded ops a.tmps) = true) (s x : Operand) (t : TypeId)
    (ho : o.op = .call { callee := .builtin .append, args := #[s, x], argTypes := #[t, t] })
    {e : TypeId} {size bytes : Nat} {z : Value} (hE : ElemOf P t e size bytes z)
    {v : Value} {n : Nat} {xs : List Value} (hs : a.eval s = v) (hown : wk.ownsRow B e size v n xs)
    {src : Value} {m : Nat} {news : List Value} (hx : a.eval x = src) (hsrc : SrcOf wk size src m news)
    (hbytes : (n + m) * bytes ≤ 140737488355328) (hbase : B ≤ wk.heap.size)
    (hk : ∀ v' w', w'.ownsRow B e size v' (n + m) (xs ++ news) → wk.grownBy w' v.ownBlock → Below B wk w' → wpAnyH P md ops Q (Sn B w') fuel (listed.setIfInBounds i true) (a.put o.dst v') w') :
    wpAnyH P md ops Q (Sn B wk) (fuel + 1) listed a wk := by
  have hi : ops[i]? = some o := Array.getElem?_toList.symm.trans hi'
  refine wpAnyH_all hr (by simp) fun j hj => ?_
  obtain rfl : j = i := by simpa using hj
  unfold wpOp
  simp only [hi, hw, if_true]
  refine .inl ?_
  refine wp_append_from s x t ho B hE hs hown hx hsrc hbytes hbase fun v' w' h1 h2 h3 => ?_
  exact ⟨h3, wpAnyH_mono (fun W hW => Below.trans h3 hW) _ _ _ _ (hk v' w' h1 h2 h3)⟩

/-- one operation of those that may come up -/
def rnSt (P : Program) (md : Region.Mode) (ops : Array Oper) (Q : Exit → Act → World → Prop) (B : Nat) (fuel : Nat) (listed : Array Bool) (a : Act) (wk : World) (i : Nat) : Prop :=
  wpOp P ops Q i (fun a' w' => Sn B wk w' ∧ wpAnyH P md ops Q (Sn B wk) fuel (listed.setIfInBounds i true) a' w') a wk

theorem rn_one {i : Nat} {fuel : Nat} {listed : Array Bool} {a : Act} {wk : World} (hr : Region.ready md ops listed = [i]) (h : rnSt P md ops Q B fuel listed a wk i) :
    wpAnyH P md ops Q (Sn B wk) (fuel + 1) listed a wk := by
  refine wpAnyH_all hr (by simp) fun j hj => ?_
  obtain rfl : j = i := by simpa using hj
  exact h

theorem rn_two {i j : Nat} {fuel : Nat} {listed : Array Bool} {a : Act} {wk : World} (hr : Region.ready md ops listed = [i, j]) (h : rnSt P md ops Q B fuel listed a wk i) (h2 : rnSt P md ops Q B fuel listed a wk j) :
    wpAnyH P md ops Q (Sn B wk) (fuel + 1) listed a wk := by
  refine wpAnyH_all hr (by simp) fun k hk => ?_
  rcases (by simpa using hk : k = i ∨ k = j) with rfl | rfl
  · exact h
  · exact h2

theorem st_call {i : Nat} {o : Oper} {f : FuncId} {args : Array Value} {fuel : Nat} {listed : Array Bool} {a : Act} {wk : World}
    (hi' : ops.toList[i]? = some o) (hw : Region.wanted o (yielded ops a.tmps) = true)
    (hrun : (execOp a.eval o).run P wk = .ok (.enter f args) wk)
    (hc : Calls P f args wk fun e w' => ∃ v, e = .returned v ∧ Below B wk w' ∧ wpAnyH P md ops Q (Sn B w') fuel (listed.setIfInBounds i true) (a.put o.dst v) w') :
    rnSt P md ops Q B fuel listed a wk i := by
  have hi : ops[i]? = some o := Array.getElem?_toList.symm.trans hi'
  unfold rnSt wpOp
  simp only [hi, hw, if_true]
  refine .inl ?_
  unfold Oper.wp
  rw [hrun, Oper.upon_enter]
  refine Calls.mono hc ?_
  rintro e w' ⟨v, rfl, hb, hk⟩
  exact ⟨hb, wpAnyH_mono (fun W hW => Below.trans hb hW) _ _ _ _ hk⟩

theorem st_make {i : Nat} {o : Oper} {v : Value} {w' : World} {fuel : Nat} {listed : Array Bool} {a : Act} {wk : World}
    (hi' : ops.toList[i]? = some o) (hw : Region.wanted o (yielded ops a.tmps) = true)
    (hrun : (execOp a.eval o).run P wk = .ok (.value v) w') (hb : Below B wk w')
    (hk : wpAnyH P md ops Q (Sn B w') fuel (listed.setIfInBounds i true) (a.put o.dst v) w') :
    rnSt P md ops Q B fuel listed a wk i := by
  have hi : ops[i]? = some o := Array.getElem?_toList.symm.trans hi'
  unfold rnSt wpOp
  simp only [hi, hw, if_true]
  refine .inl ?_
  unfold Oper.wp
  rw [hrun, Oper.upon_value]
  exact ⟨hb, wpAnyH_mono (fun W hW => Below.trans hb hW) _ _ _ _ hk⟩

theorem st_skip {i : Nat} {o : Oper} {w' : World} {fuel : Nat} {listed : Array Bool} {a : Act} {wk : World}
    (hi' : ops.toList[i]? = some o) (hw : Region.wanted o (yielded ops a.tmps) = true)
    (hrun : (execOp a.eval o).run P wk = .ok .skip w') (hb : Below B wk w')
    (hk : wpAnyH P md ops Q (Sn B w') fuel (listed.setIfInBounds i true) (a.put o.dst undef) w') :
    rnSt P md ops Q B fuel listed a wk i := by
  have hi : ops[i]? = some o := Array.getElem?_toList.symm.trans hi'
  unfold rnSt wpOp
  simp only [hi, hw, if_true]
  refine .inl ?_
  unfold Oper.wp
  rw [hrun, Oper.upon_skip]
  exact ⟨hb, wpAnyH_mono (fun W hW => Below.trans hb hW) _ _ _ _ hk⟩

theorem st_made {i : Nat} {o : Oper} {v : Value} {x : Obj} {fuel : Nat} {listed : Array Bool} {a : Act} {wk : World}
    (hi' : ops.toList[i]? = some o) (hw : Region.wanted o (yielded ops a.tmps) = true)
    (hrun : (execOp a.eval o).run P wk = .ok (.value v) (wk.alloc x)) (hB : B ≤ wk.heap.size)
    (hk : ∀ v' W, v' = v → W = wk.alloc x → Below B wk W → wpAnyH P md ops Q (Sn B W) fuel (listed.setIfInBounds i true) (a.put o.dst v') W) :
    rnSt P md ops Q B fuel listed a wk i :=
  st_make hi' hw hrun ((Below.refl _ _).alloc hB _) (hk _ _ rfl rfl ((Below.refl _ _).alloc hB _))

theorem rn_done {listed : Array Bool} {a : Act} {wk : World} {fuel : Nat} (hr : Region.ready md ops listed = []) (h : Q .normal a wk) : wpAnyH P md ops Q (Sn B wk) fuel listed a wk :=
  wpAnyH_done hr h fuel

/- the same, with whatever holds throughout -/
variable {S : World → Prop}
theorem rs_begin (S : World → Prop) {id : Nat} {a : Act} {w : World} (hm : P.follows .mixedOrders = true)
    (h : wpAnyH P .any ops Q S ops.size (Array.replicate ops.size false) a w.drew) : (Code.region id ops true).wp P Q a w :=
  wp_region_held hm h
theorem rs_take {i : Nat} {oi : Oper} {v : Value} {fuel : Nat} {listed : Array Bool} {a : Act} {wk : World} (hi' : ops.toList[i]? = some oi)
    (hs : Region.noSelect ops = true) (hf : Region.free md ops listed i = true) (hr : (Region.ready md ops listed).contains i = true)
    (hQ : ∀ c a w, Q (.panic c) (a.put oi.dst v) w → Q (.panic c) a w) (hw : Region.wanted oi (yielded ops a.tmps) = true)
    (hS : S wk) (hy : ∀ W, S W → (execOp a.eval oi).run P W = .ok (.value v) W)
    (h : wpAnyH P md ops Q S fuel (listed.setIfInBounds i true) (a.put oi.dst v) wk) : wpAnyH P md ops Q S (fuel + 1) listed a wk :=
  wpAnyH_take (Array.getElem?_toList.symm.trans hi') hs hf hr hQ (.inl ⟨hw, hy⟩) hS h
theorem rs_store {i : Nat} {o : Oper} {w' : World} {fuel : Nat} {listed : Array Bool} {a : Act} {wk : World} (hr : Region.ready md ops listed = [i])
    (hi' : ops.toList[i]? = some o) (hw : Region.wanted o (yielded ops a.tmps) = true)
    (hrun : (execOp a.eval o).run P wk = .ok .skip w') (hb : S w')
    (hk : wpAnyH P md ops Q S fuel (listed.setIfInBounds i true) (a.put o.dst undef) w') :
    wpAnyH P md ops Q S (fuel + 1) listed a wk := by
  have hi : ops[i]? = some o := Array.getElem?_toList.symm.trans hi'
  refine wpAnyH_all hr (by simp) fun j hj => ?_
  obtain rfl : j = i := by simpa using hj
  unfold wpOp
  simp only [hi, hw, if_true]
  refine .inl ?_
  unfold Oper.wp
  rw [hrun, Oper.upon_skip]
  exact ⟨hb, hk⟩
theorem rs_make {i : Nat} {o : Oper} {v : Value} {w' : World} {fuel : Nat} {listed : Array Bool} {a : Act} {wk : World} (hr : Region.ready md ops listed = [i])
    (hi' : ops.toList[i]? = some o) (hw : Region.wanted o (yielded ops a.tmps) = true)
    (hrun : (execOp a.eval o).run P wk = .ok (.value v) w') (hb : S w')
    (hk : wpAnyH P md ops Q S fuel (listed.setIfInBounds i true) (a.put o.dst v) w') :
    wpAnyH P md ops Q S (fuel + 1) listed a wk := by
  have hi : ops[i]? = some o := Array.getElem?_toList.symm.trans hi'
  refine wpAnyH_all hr (by simp) fun j hj => ?_
  obtain rfl : j = i := by simpa using hj
  unfold wpOp
  simp only [hi, hw, if_true]
  refine .inl ?_
  unfold Oper.wp
  rw [hrun, Oper.upon_value]
  exact ⟨hb, hk⟩
def rsSt (P : Program) (md : Region.Mode) (ops : Array Oper) (Q : Exit → Act → World → Prop) (S : World → Prop) (fuel : Nat) (listed : Array Bool) (a : Act) (wk : World) (i : Nat) : Prop :=
  wpOp P ops Q i (fun a' w' => S w' ∧ wpAnyH P md ops Q S fuel (listed.setIfInBounds i true) a' w') a wk
theorem rs_one {i : Nat} {fuel : Nat} {listed : Array Bool} {a : Act} {wk : World} (hr : Region.ready md ops listed = [i]) (h : rsSt P md ops Q S fuel listed a wk i) :
    wpAnyH P md ops Q S (fuel + 1) listed a wk := by
  refine wpAnyH_all hr (by simp) fun j hj => ?_
  obtain rfl : j = i := by simpa using hj
  exact h
theorem rs_two {i j : Nat} {fuel : Nat} {listed : Array Bool} {a : Act} {wk : World} (hr : Region.ready md ops listed = [i, j]) (h : rsSt P md ops Q S fuel listed a wk i) (h2 : rsSt P md ops Q S fuel listed a wk j) :
    wpAnyH P md ops Q S (fuel + 1) listed a wk := by
  refine wpAnyH_all hr (by simp) fun k hk => ?_
  rcases (by simpa using hk : k = i ∨ k = j) with rfl | rfl
  · exact h
  · exact h2
theorem ss_val {i : Nat} {o : Oper} {v : Value} {w' : World} {fuel : Nat} {listed : Array Bool} {a : Act} {wk : World}
    (hi' : ops.toList[i]? = some o) (hw : Region.wanted o (yielded ops a.tmps) = true)
    (hrun : (execOp a.eval o).run P wk = .ok (.value v) w') (hb : S w')
    (hk : wpAnyH P md ops Q S fuel (listed.setIfInBounds i true) (a.put o.dst v) w') : rsSt P md ops Q S fuel listed a wk i := by
  have hi : ops[i]? = some o := Array.getElem?_toList.symm.trans hi'
  unfold rsSt wpOp
  simp only [hi, hw, if_true]
  refine .inl ?_
  unfold Oper.wp
  rw [hrun, Oper.upon_value]
  exact ⟨hb, hk⟩
theorem ss_skip {i : Nat} {o : Oper} {w' : World} {fuel : Nat} {listed : Array Bool} {a : Act} {wk : World}
    (hi' : ops.toList[i]? = some o) (hw : Region.wanted o (yielded ops a.tmps) = true)
    (hrun : (execOp a.eval o).run P wk = .ok .skip w') (hb : S w')
    (hk : wpAnyH P md ops Q S fuel (listed.setIfInBounds i true) (a.put o.dst undef) w') : rsSt P md ops Q S fuel listed a wk i := by
  have hi : ops[i]? = some o := Array.getElem?_toList.symm.trans hi'
  unfold rsSt wpOp
  simp only [hi, hw, if_true]
  refine .inl ?_
  unfold Oper.wp
  rw [hrun, Oper.upon_skip]
  exact ⟨hb, hk⟩
theorem ss_call {i : Nat} {o : Oper} {f : FuncId} {args : Array Value} {fuel : Nat} {listed : Array Bool} {a : Act} {wk : World}
    (hi' : ops.toList[i]? = some o) (hw : Region.wanted o (yielded ops a.tmps) = true)
    (hrun : (execOp a.eval o).run P wk = .ok (.enter f args) wk)
    (hc : Calls P f args wk fun e w' => ∃ v, e = .returned v ∧ S w' ∧ wpAnyH P md ops Q S fuel (listed.setIfInBounds i true) (a.put o.dst v) w') : rsSt P md ops Q S fuel listed a wk i := by
  have hi : ops[i]? = some o := Array.getElem?_toList.symm.trans hi'
  unfold rsSt wpOp
  simp only [hi, hw, if_true]
  refine .inl ?_
  unfold Oper.wp
  rw [hrun, Oper.upon_enter]
  refine Calls.mono hc ?_
  rintro e w' ⟨v, rfl, hb, hk⟩
  exact ⟨hb, hk⟩
theorem rs_done {listed : Array Bool} {a : Act} {wk : World} {fuel : Nat} (hr : Region.ready md ops listed = []) (h : Q .normal a wk) : wpAnyH P md ops Q S fuel listed a wk :=
  wpAnyH_done hr h fuel
end rg
end Go.Proofs.YtomblhnchdokmaaGreatDoor

namespace Go.Proofs.YtomblhnchdokmaaGreatDoor
set_option linter.unusedSimpArgs false
set_option linter.unusedVariables false
open Go.RowKit
set_option maxRecDepth 10000

/-- n cells of block b from o on -/
def rng (w : World) (b o n : Nat) : Option (List Value) :=
  match w.heap[b]? with
  | some (.cells c _ _) => if o + n ≤ c.size then some ((c.toList.drop o).take n) else none
  | _ => none
theorem rng_len {w : World} {b o n : Nat} {cs : List Value} (h : rng w b o n = some cs) : cs.length = n := by
  unfold rng at h
  split at h
  · split at h
    · rename_i hle
      cases h
      simp only [List.length_take, List.length_drop, Array.length_toList]
      omega
    · cases h
  · cases h
theorem rng_at {w : World} {b o n : Nat} {cs : List Value} (h : rng w b o n = some cs) : w.rangeAt b o cs := by
  have hl := rng_len h
  unfold rng at h
  split at h
  · rename_i c t fr hb
    split at h
    · cases h
      intro j v hv
      rw [cell_of_row w b _ c t fr hb]
      have hj : j < n := by
        have := (List.getElem?_eq_some_iff.1 hv).1
        omega
      rw [List.getElem?_take_of_lt hj, List.getElem?_drop] at hv
      simpa using hv
    · cases h
  · cases h
theorem rng_of {w : World} {b o : Nat} {cs : List Value} (h : w.rangeAt b o cs) (h1 : cs ≠ []) : rng w b o cs.length = some cs := by
  obtain ⟨x, xs, rfl⟩ := List.exists_cons_of_ne_nil h1
  have h0 := h 0 x rfl
  obtain ⟨c, t, fr, hb⟩ : ∃ c t fr, w.heap[b]? = some (.cells c t fr) := by
    unfold World.cell? at h0
    split at h0
    · rename_i c t fr hb; exact ⟨c, t, fr, hb⟩
    · cases h0
  have hc : ∀ j v, (x :: xs)[j]? = some v → c[o + j]? = some v := fun j v hv => by
    have := h j v hv
    rwa [cell_of_row w b _ c t fr hb] at this
  unfold rng
  rw [hb]
  have hle : o + (x :: xs).length ≤ c.size := by
    have := (Array.getElem?_eq_some_iff.1 (hc ((x :: xs).length - 1) _ (List.getElem?_eq_getElem (by simp)))).1
    simp at this ⊢; omega
  simp only [hle, if_true, Option.some.injEq]
  refine List.ext_getElem? fun j => ?_
  by_cases hj : j < (x :: xs).length
  · rw [List.getElem?_take_of_lt hj, List.getElem?_drop, List.getElem?_eq_getElem hj]
    simpa using hc j _ (List.getElem?_eq_getElem hj)
  · rw [List.getElem?_eq_none (by simp at hj ⊢; omega), List.getElem?_eq_none (by omega)]
theorem rng_block {w : World} {b : Nat} {cs : Array Value} {t : TypeId} {fr : Nat × Nat} (h : w.heap[b]? = some (.cells cs t fr)) : rng w b 0 cs.size = some cs.toList := by
  unfold rng; rw [h]; simp [List.take_of_length_le]
theorem rng_below {B : Nat} {w w' : World} (hb : Below B w w') {b o n : Nat} (h : b < B) : rng w' b o n = rng w b o n := by
  unfold rng; rw [hb.block b h]

/-- a load of a struct of n cells -/
def ldr (P : Program) (t n : Nat) (v : Value) (w : World) : Result Next :=
  match v with
  | .pointer (some ⟨b, o, none⟩) =>
    match rng w b o n with
    | some cs => .ok (.value (.agg cs.toArray)) w
    | none => (do pure (Next.value (← Instr.loadAt t v)) : Sem Next).run P w
  | _ => (do pure (Next.value (← Instr.loadAt t v)) : Sem Next).run P w
/-- t is a struct, or an array, of n cells -/
structure RowOf (P : Program) (t n : Nat) : Prop where
  und : (P.underlying t).map (·.isRow) = some true
  size : (P.info? t).map (·.size) = some n
theorem exec_load_row {P : Program} {t n : Nat} (H : RowOf P t n) {ρ : Operand → Value} {dst : Option Tmp} {x : Operand} {ty : TypeId} {pos : String} {after : Array Edge} {guard : Option (Nat × Bool)} {w : World} :
    (execOp ρ { dst, op := .load t x, type := ty, pos, after, guard }).run P w = ldr P t n (ρ x) w := by
  have hd : (execOp ρ { dst, op := .load t x, type := ty, pos, after, guard }).run P w = (do pure (Next.value (← Instr.loadAt t (ρ x))) : Sem Next).run P w := rfl
  rw [hd]
  unfold ldr
  split
  · rename_i b o hx
    split
    · rename_i cs hcs
      obtain ⟨d, hu, hr⟩ : ∃ d, P.underlying t = some d ∧ d.isRow = true := by
        have := H.und
        cases h : P.underlying t with
        | none => simp [h] at this
        | some d => simp [h] at this; exact ⟨d, rfl, this⟩
      have hl := rng_len hcs
      have := run_loadAt_mid (P := P) w b o t cs d (rng_at hcs) hu hr (by rw [H.size, hl])
      rw [hx]
      simp only [this, Sem.run_bind, Sem.run_pure, Result.andThen_ok]
    · rfl
  · rfl
@[go_sem] theorem ldr_ptr (P : Program) (t n b o : Nat) (w : World) : ldr P t n (.pointer (some ⟨b, o, none⟩)) w =
    match rng w b o n with
    | some cs => .ok (.value (.agg cs.toArray)) w
    | none => (do pure (Next.value (← Instr.loadAt t (.pointer (some ⟨b, o, none⟩)))) : Sem Next).run P w := rfl
end Go.Proofs.YtomblhnchdokmaaGreatDoor

namespace Go.Proofs.YtomblhnchdokmaaGreatDoor
set_option linter.unusedSimpArgs false
set_option linter.unusedVariables false
open Go.RowKit
set_option maxRecDepth 10000

/-! Readers. -/
/-- what lies on the blocks of z reads the same in w' -/
def Stay (z : Nat → Prop) (w : World) (z' : Nat → Prop) (w' : World) : Prop :=
  ∀ b, z b → b < w.heap.size → w'.heap[b]? = w.heap[b]? ∧ z' b
theorem Stay.trans {z z1 z2 : Nat → Prop} {w w1 w2 : World} (h : Stay z w z1 w1) (hs : w.heap.size ≤ w1.heap.size) (h2 : Stay z1 w1 z2 w2) : Stay z w z2 w2 :=
  fun b hb hl => ⟨(h2 b (h b hb hl).2 (Nat.lt_of_lt_of_le hl hs)).1.trans (h b hb hl).1, (h2 b (h b hb hl).2 (Nat.lt_of_lt_of_le hl hs)).2⟩
theorem stay_wider {z z' : Nat → Prop} {w : World} (h : ∀ b, z b → b < w.heap.size → z' b) : Stay z w z' w := fun b hb hl => ⟨rfl, h b hb hl⟩

structure Rdr (α : Type) where
  n : Nat
  R : (Nat → Prop) → World → List Value → α → Prop
  len : ∀ {z w cs a}, R z w cs a → cs.length = n
  one : ∀ {z w cs a}, R z w cs a → ∀ u ∈ cs, u.oneCell' = true
  stay : ∀ {z w z' w' cs a}, R z w cs a → Stay z w z' w' → R z' w' cs a

theorem rng_lt {w : World} {b o n : Nat} {cs : List Value} (h : rng w b o n = some cs) : b < w.heap.size := by
  unfold rng at h
  split at h
  · rename_i c t fr hb
    exact (Array.getElem?_eq_some_iff.1 hb).1
  · cases h
theorem rng_same {w w' : World} {b : Nat} (h : w'.heap[b]? = w.heap[b]?) (o n : Nat) : rng w' b o n = rng w b o n := by
  unfold rng; rw [h]

abbrev rInt (k : IntKind) : Rdr Int where
  n := 1
  R _ _ cs a := cs = [.int k a]
  len h := by rw [h]; rfl
  one h := by rw [h]; simp [Value.oneCell']
  stay h _ := h
abbrev rByte : Rdr UInt8 where
  n := 1
  R _ _ cs a := cs = [bv a]
  len h := by rw [h]; rfl
  one h := by rw [h]; simp [Value.oneCell']
  stay h _ := h
abbrev rBool : Rdr Bool where
  n := 1
  R _ _ cs a := cs = [.bool a]
  len h := by rw [h]; rfl
  one h := by rw [h]; simp [Value.oneCell']
  stay h _ := h
abbrev rStr : Rdr ByteArray where
  n := 1
  R _ _ cs a := cs = [.string a]
  len h := by rw [h]; rfl
  one h := by rw [h]; simp [Value.oneCell']
  stay h _ := h
abbrev rUnit : Rdr Unit where
  n := 0
  R _ _ cs _ := cs = []
  len h := by rw [h]; rfl
  one h := by rw [h]; simp
  stay h _ := h
abbrev rPair {α β : Type} (p : Rdr α) (q : Rdr β) : Rdr (α × β) where
  n := p.n + q.n
  R z w cs a := ∃ c d, cs = c ++ d ∧ p.R z w c a.1 ∧ q.R z w d a.2
  len := by rintro z w cs a ⟨c, d, rfl, h1, h2⟩; rw [List.length_append, p.len h1, q.len h2]
  one := by
    rintro z w cs a ⟨c, d, rfl, h1, h2⟩ u hu
    rcases List.mem_append.1 hu with h | h
    · exact p.one h1 u h
    · exact q.one h2 u h
  stay := by rintro z w z' w' cs a ⟨c, d, rfl, h1, h2⟩ h; exact ⟨c, d, rfl, p.stay h1 h, q.stay h2 h⟩
abbrev rIso {α β : Type} (p : Rdr β) (f : α → β) : Rdr α where
  n := p.n
  R z w cs a := p.R z w cs (f a)
  len h := p.len h
  one h := p.one h
  stay h hs := p.stay h hs

/-- v is a slice of l -/
def SlZ {α : Type} (r : Rdr α) (z : Nat → Prop) (w : World) (v : Value) (l : List α) : Prop :=
  ∃ ad cap, v = .slice ad l.length cap ∧ l.length ≤ cap ∧ cap ≤ maxLen ∧ (ad = none → cap = 0) ∧ (l ≠ [] → ∃ b o, ad = some ⟨b, o, none⟩ ∧ z b ∧ ∀ i x, l[i]? = some x → ∃ cs, rng w b (o + i * r.n) r.n = some cs ∧ r.R z w cs x)
theorem SlZ.stay {α : Type} {r : Rdr α} {z z' : Nat → Prop} {w w' : World} {v : Value} {l : List α} (h : SlZ r z w v l) (hs : Stay z w z' w') : SlZ r z' w' v l := by
  obtain ⟨ad, cap, rfl, h1, h2, h4, h3⟩ := h
  refine ⟨ad, cap, rfl, h1, h2, h4, fun hne => ?_⟩
  obtain ⟨b, o, rfl, hz, hr⟩ := h3 hne
  obtain ⟨cs0, h0, _⟩ := hr 0 _ (List.getElem?_eq_getElem (List.length_pos_iff.2 hne))
  have hb := hs b hz (rng_lt h0)
  refine ⟨b, o, rfl, hb.2, fun i x hx => ?_⟩
  obtain ⟨cs, g1, g2⟩ := hr i x hx
  exact ⟨cs, (rng_same hb.1 _ _).trans g1, r.stay g2 hs⟩
abbrev rSl {α : Type} (r : Rdr α) : Rdr (List α) where
  n := 1
  R z w cs l := ∃ v, cs = [v] ∧ SlZ r z w v l
  len := by rintro z w cs a ⟨v, rfl, _⟩; rfl
  one := by rintro z w cs a ⟨v, rfl, _, _, rfl, _⟩; simp [Value.oneCell']
  stay := by rintro z w z' w' cs a ⟨v, rfl, h⟩ hs; exact ⟨v, rfl, h.stay hs⟩

theorem SlZ.nil {α : Type} (r : Rdr α) (z : Nat → Prop) (w : World) : SlZ r z w (.slice none 0 0) [] := ⟨none, 0, rfl, Nat.le_refl _, Nat.zero_le _, fun _ => rfl, fun h => absurd rfl h⟩
theorem SlZ.shape {α : Type} {r : Rdr α} {z : Nat → Prop} {w : World} {v : Value} {l : List α} (h : SlZ r z w v l) : ∃ ad cap, v = .slice ad l.length cap ∧ l.length ≤ cap ∧ cap ≤ maxLen := by
  obtain ⟨ad, cap, h0, h1, h2, _⟩ := h
  exact ⟨ad, cap, h0, h1, h2⟩
theorem SlZ.len_le {α : Type} {r : Rdr α} {z : Nat → Prop} {w : World} {v : Value} {l : List α} (h : SlZ r z w v l) : l.length ≤ 9223372036854775807 := by
  obtain ⟨_, _, _, h1, h2⟩ := h.shape
  unfold maxLen at h2; omega
/-- an element's cells -/
theorem SlZ.get {α : Type} {r : Rdr α} {z : Nat → Prop} {w : World} {ad : Option Addr} {n cap : Nat} {l : List α} (h : SlZ r z w (.slice ad n cap) l) {i : Nat} {x : α} (hx : l[i]? = some x) : ∃ b o cs, ad = some ⟨b, o, none⟩ ∧ z b ∧ rng w b (o + i * r.n) r.n = some cs ∧ r.R z w cs x := by
  obtain ⟨ad', cap', h0, h1, h2, -, h3⟩ := h
  injection h0 with h0
  subst h0
  obtain ⟨b, o, rfl, hz, hr⟩ := h3 (by rintro rfl; simp at hx)
  obtain ⟨cs, g1, g2⟩ := hr i x hx
  exact ⟨b, o, cs, rfl, hz, g1, g2⟩

/-- what stayed, but in the blocks of S -/
structure Kpt (w w' : World) (S : Nat → Prop) : Prop where
  os : w'.os = w.os
  tape : w'.tape = w.tape
  output : w'.output = w.output
  size : w.heap.size ≤ w'.heap.size
  block : ∀ k, k < w.heap.size → ¬ S k → w'.heap[k]? = w.heap[k]?
theorem Kpt.refl (w : World) (S : Nat → Prop) : Kpt w w S := ⟨rfl, rfl, rfl, Nat.le_refl _, fun _ _ _ => rfl⟩
theorem Kpt.of_below {w w' : World} (h : Below w.heap.size w w') (S : Nat → Prop) : Kpt w w' S := ⟨h.os, h.tape, h.output, h.size, fun k hk _ => h.block k hk⟩
theorem Kpt.below {w w' : World} {S : Nat → Prop} (h : Kpt w w' S) (hS : ∀ k, S k → w.heap.size ≤ k) : Below w.heap.size w w' := ⟨h.os, h.tape, h.output, h.size, fun k hk => h.block k hk (fun e => by have := hS k e; omega)⟩

/-! What a call owns. -/
structure As where
  holds : World → Prop
  foot : Nat → Prop
  lt : ∀ {w}, holds w → ∀ b, foot b → b < w.heap.size
  kept : ∀ {w w'} {S : Nat → Prop}, holds w → Kpt w w' S → (∀ b, foot b → ¬ S b) → holds w'
  fact : World → Prop
  tell : ∀ {w}, holds w → fact w

/-- the cells of block b are cs -/
def Blk (w : World) (B : Nat) (cs : List Value) : Prop := (∀ k, w.cell? ⟨B, k, none⟩ = cs[k]?) ∧ (∀ k, w.frozen? ⟨B, k, none⟩ = false) ∧ ∀ o n, rng w B o n = if o + n ≤ cs.length then some ((cs.drop o).take n) else none
/-- a block of its own: a variable -/
def va (B : Nat) (cs : List Value) (t : TypeId) : As where
  holds w := w.heap[B]? = some (.cells cs.toArray t (0, 0))
  foot b := b = B
  lt := by rintro w h b rfl; exact (Array.getElem?_eq_some_iff.1 h).1
  kept := fun h hk hn => (hk.block B (Array.getElem?_eq_some_iff.1 h).1 (hn _ rfl)).trans h
  fact w := Blk w B cs
  tell := fun {w} h => ⟨fun k => by rw [cell_of_row w B k _ _ _ h]; simp, fun k => frozen_of_row w B k _ _ h, fun o n => by unfold rng; rw [h]; simp⟩
/-- a slice of its own: its cells -/
def vec (e size : Nat) (v : Value) (n : Nat) (xs : List Value) : As where
  holds w := w.ownsRow 0 e size v n xs
  foot b := v.ownBlock = some b
  lt := fun h b hb => (h.lt b hb).2
  kept := by
    intro w w' S h hk hn
    refine ⟨h.1, ?_⟩
    rcases h.2 with h2 | ⟨g, cap, cur, rfl, hb, hg, r⟩
    · exact .inl h2
    · exact .inr ⟨g, cap, cur, rfl, hb, (hk.block g (Array.getElem?_eq_some_iff.1 hg).1 (hn g rfl)).trans hg, r⟩
  fact _ := True
  tell := fun _ => trivial
/-- something else: an object at block T -/
def obj (T : Nat) (p : World → (Nat → Prop) → Prop) (A : Nat → Prop) (hl : ∀ {w}, p w A → ∀ b, A b → b < w.heap.size) (hk : ∀ {w w'} {S : Nat → Prop}, p w A → Kpt w w' S → (∀ b, A b → ¬ S b) → p w' A) : As where
  holds w := p w A
  foot := A
  lt := hl
  kept := hk
  fact _ := True
  tell := fun _ => trivial

/-- what may be read: what the caller let be read (z), and what is new, but what is owned -/
def zone (w0 : World) (z : Nat → Prop) (O : List As) (w : World) : Nat → Prop := fun b => (b < w0.heap.size → z b) ∧ b < w.heap.size ∧ ∀ o ∈ O, ¬ o.foot b
/-- a reading -/
structure Rd where
  p : (Nat → Prop) → World → Prop
  stay : ∀ {z w z' w'}, p z w → Stay z w z' w' → p z' w'
  fact : World → Prop
  tell : ∀ {z w}, p z w → fact w
def rd {α : Type} (r : Rdr α) (cs : List Value) (a : α) : Rd := ⟨fun z w => r.R z w cs a, fun h hs => r.stay h hs, fun _ => True, fun _ => trivial⟩
/-- a slice that is read -/
def rdS {α : Type} (r : Rdr α) (v : Value) (l : List α) : Rd := ⟨fun z w => SlZ r z w v l, fun h hs => h.stay hs, fun _ => True, fun _ => trivial⟩
def CellsAt (w : World) (b o : Nat) : Nat → List Value → Prop
  | _, [] => True
  | i, v :: cs => w.cell? ⟨b, o + i, none⟩ = some v ∧ CellsAt w b o (i + 1) cs
theorem cellsAt_of {w : World} {b o : Nat} : ∀ (cs : List Value) (i : Nat), w.rangeAt b (o + i) cs → CellsAt w b o i cs
  | [], _, _ => trivial
  | v :: cs, i, h => ⟨h 0 v rfl, cellsAt_of cs (i + 1) fun j u hu => by have := h (j + 1) u (by simpa using hu); rwa [show o + (i + 1) + j = o + i + (j + 1) by omega]⟩
/-- cells that are read -/
def rdE (b o : Nat) (cs : List Value) : Rd where
  p z w := z b ∧ rng w b o cs.length = some cs
  stay h hs := ⟨(hs b h.1 (rng_lt h.2)).2, (rng_same (hs b h.1 (rng_lt h.2)).1 _ _).trans h.2⟩
  fact w := rng w b o cs.length = some cs ∧ CellsAt w b o 0 cs
  tell h := ⟨h.2, cellsAt_of _ 0 (rng_at h.2)⟩

/-- the state of a walk that began in w0: it may write the blocks of G and what is new; it owns O, and reads T -/
structure St (w0 : World) (G z : Nat → Prop) (O : List As) (T : List Rd) (w : World) : Prop where
  base : Kpt w0 w G
  own : ∀ o ∈ O, o.holds w
  new : ∀ o ∈ O, ∀ b, o.foot b → w0.heap.size ≤ b ∨ G b
  apart : O.Pairwise (fun a b => ∀ k, a.foot k → ¬ b.foot k)
  rds : ∀ r ∈ T, r.p (zone w0 z O w) w

section
variable {w0 w : World} {G z : Nat → Prop} {O : List As} {T : List Rd}

theorem St.start (w : World) (z : Nat → Prop) (T : List Rd) (h : ∀ r ∈ T, r.p z w) : St w (fun _ => False) z [] T w :=
  ⟨Kpt.refl _ _, by simp, by simp, .nil, fun r hr => r.stay (h r hr) (stay_wider fun b hb hl => ⟨fun _ => hb, hl, by simp⟩)⟩
theorem St.begin (w : World) (G z : Nat → Prop) (O : List As) (T : List Rd) (ho : ∀ o ∈ O, o.holds w) (hg : ∀ o ∈ O, ∀ b, o.foot b → G b ∧ ¬ z b) (ha : O.Pairwise (fun a b => ∀ k, a.foot k → ¬ b.foot k)) (h : ∀ r ∈ T, r.p z w) : St w G z O T w :=
  ⟨Kpt.refl _ _, ho, fun o ho b hb => .inr (hg o ho b hb).1, ha, fun r hr => r.stay (h r hr) (stay_wider fun b hb hl => ⟨fun _ => hb, hl, fun o ho hf => (hg o ho b hf).2 hb⟩)⟩
theorem St.rd (H : St w0 G z O T w) (i : Nat) {r : Rd} (h : T[i]? = some r) : r.p (zone w0 z O w) w := H.rds r (List.mem_of_getElem? h)
theorem St.has (H : St w0 G z O T w) (i : Nat) {o : As} (h : O[i]? = some o) : o.holds w := H.own o (List.mem_of_getElem? h)
theorem St.lt (H : St w0 G z O T w) {o : As} (h : o ∈ O) {b : Nat} (hb : o.foot b) : b < w.heap.size := o.lt (H.own o h) b hb

/-- something new came, nothing else changed -/
theorem St.grow (H : St w0 G z O T w) {w' : World} (N : List As) (T' : List Rd) (hb : Below w.heap.size w w') (hN : ∀ o ∈ N, o.holds w') (hn : ∀ o ∈ N, ∀ b, o.foot b → w.heap.size ≤ b) (ha : N.Pairwise (fun a b => ∀ k, a.foot k → ¬ b.foot k))
    (hT : ∀ r ∈ T', r.p (zone w0 z (N ++ O) w') w') : St w0 G z (N ++ O) (T' ++ T) w' := by
  refine ⟨⟨hb.os.trans H.base.os, hb.tape.trans H.base.tape, hb.output.trans H.base.output, Nat.le_trans H.base.size hb.size, fun k hk hG => (hb.block k (Nat.lt_of_lt_of_le hk H.base.size)).trans (H.base.block k hk hG)⟩, ?_, ?_, ?_, ?_⟩
  · intro o ho
    rcases List.mem_append.1 ho with h | h
    · exact hN o h
    · exact o.kept (H.own o h) (Kpt.of_below hb (fun _ => False)) fun _ _ h => h
  · intro o ho b hf
    rcases List.mem_append.1 ho with h | h
    · exact .inl (Nat.le_trans H.base.size (hn o h b hf))
    · exact H.new o h b hf
  · refine List.pairwise_append.2 ⟨ha, H.apart, fun a ha b hb' k h1 h2 => ?_⟩
    have := hn a ha k h1
    have := H.lt hb' h2
    omega
  · intro r hr
    rcases List.mem_append.1 hr with h | h
    · exact hT r h
    · refine r.stay (H.rds r h) fun b hz hl => ⟨hb.block b hl, hz.1, Nat.lt_of_lt_of_le hl hb.size, fun o ho hf => ?_⟩
      rcases List.mem_append.1 ho with h | h
      · have := hn o h b hf; omega
      · exact hz.2.2 o h hf
theorem St.alloc (H : St w0 G z O T w) (cs : List Value) (t : TypeId) : St w0 G z (va w.heap.size cs t :: O) T (w.alloc (.cells cs.toArray t)) := by
  have := H.grow [va w.heap.size cs t] [] ((Below.refl _ _).alloc (Nat.le_refl _) (.cells cs.toArray t)) (by simp only [List.mem_singleton, forall_eq]; exact heap_alloc_new w _) (by simp only [List.mem_singleton, forall_eq]; rintro b rfl; exact Nat.le_refl _) (List.pairwise_singleton _ _) (by simp)
  simpa using this
theorem St.same (H : St w0 G z O T w) {w' : World} (hb : Below w.heap.size w w') : St w0 G z O T w' := by
  have := H.grow [] [] hb (by simp) (by simp) .nil (by simp)
  simpa using this
/-- where a call's results lie that reads z -/
def Fresh (z : Nat → Prop) (w w' : World) : Nat → Prop := fun b => z b ∨ (w.heap.size ≤ b ∧ b < w'.heap.size)
theorem fresh_zone (H : St w0 G z O T w) {w' : World} (hb : Below w.heap.size w w') : Stay (Fresh (zone w0 z O w) w w') w' (zone w0 z O w') w' := fun b hz _ => by
  refine ⟨rfl, ?_⟩
  rcases hz with ⟨h0, h1, h2⟩ | ⟨h1, h2⟩
  · exact ⟨h0, Nat.lt_of_lt_of_le h1 hb.size, h2⟩
  · exact ⟨fun h => by have := H.base.size; omega, h2, fun o ho hf => by have := H.lt ho hf; omega⟩
/-- a call that answers something to read -/
theorem St.call (H : St w0 G z O T w) {w' : World} (hb : Below w.heap.size w w') (r : Rd) (hr : r.p (Fresh (zone w0 z O w) w w') w') : St w0 G z O (r :: T) w' := by
  have := H.grow [] [r] hb (by simp) (by simp) .nil (by simp only [List.mem_singleton, forall_eq, List.nil_append]; exact r.stay hr (fresh_zone H hb))
  simpa using this
/-- a call that answers something of one's own -/
theorem St.gets (H : St w0 G z O T w) {w' : World} (hb : Below w.heap.size w w') (o : As) (ho : o.holds w') (hn : ∀ b, o.foot b → w.heap.size ≤ b) : St w0 G z (o :: O) T w' := by
  have := H.grow [o] [] hb (by simpa using ho) (by simpa using hn) (List.pairwise_singleton _ _) (by simp)
  simpa using this
theorem St.draw (H : St w0 G z O T w) (n : Nat) : St w0 G z O T (w.drewN n) := H.same ⟨rfl, rfl, rfl, Nat.le_refl _, fun _ _ => rfl⟩

/-- one of the owned changed -/
theorem St.upd (H : St w0 G z O T w) (i : Nat) {o : As} (hi : O[i]? = some o) (o' : As) {w' : World} (hk : Kpt w w' o.foot) (hh : o'.holds w') (hf : ∀ b, o'.foot b → o.foot b ∨ w.heap.size ≤ b) (T' : List Rd) (hT : ∀ r ∈ T', r.p (zone w0 z (O.set i o') w') w') :
    St w0 G z (O.set i o') (T' ++ T) w' := by
  have hil : i < O.length := (List.getElem?_eq_some_iff.1 hi).1
  have hig : O[i] = o := (List.getElem?_eq_some_iff.1 hi).2
  have hoO := List.mem_of_getElem? hi
  have apart : ∀ j (hj : j < O.length), j ≠ i → ∀ k, O[j].foot k → ¬ o.foot k := fun j hj hne k h1 h2 => by
    rcases Nat.lt_or_gt_of_ne hne with h | h
    · exact List.pairwise_iff_getElem.1 H.apart j i hj hil h k h1 (hig ▸ h2)
    · exact List.pairwise_iff_getElem.1 H.apart i j hil hj h k (hig ▸ h2) h1
  have old : ∀ p ∈ O.set i o', p = o' ∨ ∃ j, ∃ hj : j < O.length, j ≠ i ∧ p = O[j] := fun p hp => by
    obtain ⟨j, hj, rfl⟩ := List.mem_iff_getElem.1 hp
    rw [List.length_set] at hj
    by_cases e : i = j
    · subst e; left; simp
    · right; exact ⟨j, hj, fun h => e h.symm, by rw [List.getElem_set_ne e]⟩
  refine ⟨⟨hk.os.trans H.base.os, hk.tape.trans H.base.tape, hk.output.trans H.base.output, Nat.le_trans H.base.size hk.size, fun k hl hG => (hk.block k (Nat.lt_of_lt_of_le hl H.base.size) (fun e => ?_)).trans (H.base.block k hl hG)⟩, ?_, ?_, ?_, ?_⟩
  · rcases H.new o hoO k e with h | h
    · omega
    · exact hG h
  · intro p hp
    rcases old p hp with rfl | ⟨j, hj, hne, rfl⟩
    · exact hh
    · exact (O[j]).kept (H.own _ (List.getElem_mem hj)) hk (apart j hj hne)
  · intro p hp b hb
    rcases old p hp with rfl | ⟨j, hj, hne, rfl⟩
    · rcases hf b hb with h | h
      · exact H.new o hoO b h
      · exact .inl (Nat.le_trans H.base.size h)
    · exact H.new _ (List.getElem_mem hj) b hb
  · refine List.pairwise_iff_getElem.2 fun a b ha hb hab k h1 h2 => ?_
    rw [List.length_set] at ha hb
    rw [List.getElem_set] at h1 h2
    by_cases e1 : i = a
    · subst e1
      rw [if_pos rfl] at h1
      rw [if_neg (by omega)] at h2
      rcases hf k h1 with h | h
      · exact apart b hb (by omega) k h2 h
      · have := H.lt (List.getElem_mem hb) h2; omega
    · rw [if_neg e1] at h1
      by_cases e2 : i = b
      · subst e2
        rw [if_pos rfl] at h2
        rcases hf k h2 with h | h
        · exact apart a ha (by omega) k h1 h
        · have := H.lt (List.getElem_mem ha) h1; omega
      · rw [if_neg e2] at h2
        exact List.pairwise_iff_getElem.1 H.apart a b ha hb hab k h1 h2
  · intro r hr
    rcases List.mem_append.1 hr with h | h
    · exact hT r h
    · refine r.stay (H.rds r h) fun b hz hl => ⟨hk.block b hl (hz.2.2 o hoO), hz.1, Nat.lt_of_lt_of_le hl hk.size, fun p hp hpf => ?_⟩
      rcases old p hp with rfl | ⟨j, hj, hne, rfl⟩
      · rcases hf b hpf with h | h
        · exact hz.2.2 o hoO h
        · omega
      · exact hz.2.2 _ (List.getElem_mem hj) hpf
/-- what is not needed any more -/
theorem St.sub (H : St w0 G z O T w) {O' : List As} {T' : List Rd} (ho : O'.Sublist O) (ht : ∀ r ∈ T', r ∈ T) : St w0 G z O' T' w :=
  ⟨H.base, fun o h => H.own o (ho.subset h), fun o h => H.new o (ho.subset h), H.apart.sublist ho, fun r h => r.stay (H.rds r (ht r h)) (stay_wider fun b hz _ => ⟨hz.1, hz.2.1, fun o ho' => hz.2.2 o (ho.subset ho')⟩)⟩
/-- one of the owned, brought to the front -/
theorem St.front (H : St w0 G z O T w) (i : Nat) {o : As} (hi : O[i]? = some o) : St w0 G z (o :: O.eraseIdx i) T w := by
  have hil : i < O.length := (List.getElem?_eq_some_iff.1 hi).1
  have hig : O[i] = o := (List.getElem?_eq_some_iff.1 hi).2
  have hm : ∀ p, p ∈ o :: O.eraseIdx i → p ∈ O := fun p hp => by
    rcases List.mem_cons.1 hp with rfl | hp
    · exact List.mem_of_getElem? hi
    · exact (List.eraseIdx_sublist O i).subset hp
  refine ⟨H.base, fun p hp => H.own p (hm p hp), fun p hp => H.new p (hm p hp), List.pairwise_cons.2 ⟨fun p hp k h1 h2 => ?_, H.apart.sublist (List.eraseIdx_sublist O i)⟩, fun r hr => r.stay (H.rds r hr) (stay_wider fun b hz _ => ⟨hz.1, hz.2.1, fun p hp => hz.2.2 p (hm p hp)⟩)⟩
  obtain ⟨j, hj, hne, hjp⟩ : ∃ j, ∃ hj : j < O.length, j ≠ i ∧ O[j] = p := by
    obtain ⟨q, hq, rfl⟩ := List.mem_iff_getElem.1 hp
    rw [List.length_eraseIdx_of_lt hil] at hq
    rw [List.getElem_eraseIdx]
    split
    · exact ⟨q, by omega, by omega, rfl⟩
    · exact ⟨q + 1, by omega, by omega, rfl⟩
  subst hjp
  rcases Nat.lt_or_gt_of_ne hne with h | h
  · exact List.pairwise_iff_getElem.1 H.apart j i hj hil h k h2 (hig ▸ h1)
  · exact List.pairwise_iff_getElem.1 H.apart i j hil hj h k (hig ▸ h1) h2
/-- another reading, out of those that there are -/
theorem St.also (H : St w0 G z O T w) (r : Rd) (h : r.p (zone w0 z O w) w) : St w0 G z O (r :: T) w :=
  ⟨H.base, H.own, H.new, H.apart, fun q hq => by rcases List.mem_cons.1 hq with rfl | hq; exact h; exact H.rds q hq⟩
/-- what is read now was owned -/
theorem St.freeze (H : St w0 G z O T w) (i : Nat) (r : Rd) (h : r.p (zone w0 z (O.eraseIdx i) w) w) : St w0 G z (O.eraseIdx i) (r :: T) w :=
  (H.sub (List.eraseIdx_sublist O i) (fun _ h => h)).also r h
/-- the end -/
theorem St.below (H : St w0 G z O T w) (hG : ∀ k, G k → w0.heap.size ≤ k) : Below w0.heap.size w0 w := H.base.below hG
theorem St.below' (H : St w0 (fun _ => False) z O T w) : Below w0.heap.size w0 w := H.base.below (fun _ h => h.elim)
def Facts : List As → World → Prop
  | [], _ => True
  | o :: l, w => o.fact w ∧ Facts l w
theorem facts_of : ∀ (l : List As) (w : World), (∀ o ∈ l, o.holds w) → Facts l w
  | [], _, _ => trivial
  | o :: l, w, h => ⟨o.tell (h o List.mem_cons_self), facts_of l w fun p hp => h p (List.mem_cons_of_mem _ hp)⟩
def FactsT : List Rd → World → Prop
  | [], _ => True
  | o :: l, w => o.fact w ∧ FactsT l w
theorem factsT_of {z : Nat → Prop} : ∀ (l : List Rd) (w : World), (∀ o ∈ l, o.p z w) → FactsT l w
  | [], _, _ => trivial
  | o :: l, w, h => ⟨o.tell (h o List.mem_cons_self), factsT_of l w fun p hp => h p (List.mem_cons_of_mem _ hp)⟩
theorem St.facts (H : St w0 G z O T w) : Facts O w ∧ FactsT T w := ⟨facts_of O w H.own, factsT_of T w H.rds⟩
theorem facts_nil {w : World} : Facts [] w = True := rfl
theorem facts_va {w : World} {B : Nat} {cs : List Value} {t : TypeId} {l : List As} : Facts (va B cs t :: l) w = ((∀ k, w.cell? ⟨B, k, none⟩ = cs[k]?) ∧ (∀ k, w.frozen? ⟨B, k, none⟩ = false) ∧ (∀ o n, rng w B o n = if o + n ≤ cs.length then some ((cs.drop o).take n) else none) ∧ Facts l w) := by
  show (Blk w B cs ∧ Facts l w) = _
  unfold Blk
  simp only [and_assoc]
theorem facts_vec {w : World} {e size : Nat} {v : Value} {n : Nat} {xs : List Value} {l : List As} : Facts (vec e size v n xs :: l) w = Facts l w := by show (True ∧ _) = _; simp
theorem facts_obj {w : World} {B : Nat} {p : World → (Nat → Prop) → Prop} {A : Nat → Prop} {hl : ∀ {w}, p w A → ∀ b, A b → b < w.heap.size} {hk : ∀ {w w'} {S : Nat → Prop}, p w A → Kpt w w' S → (∀ b, A b → ¬ S b) → p w' A} {l : List As} : Facts (obj B p A hl hk :: l) w = Facts l w := by show (True ∧ _) = _; simp
theorem factsT_nil {w : World} : FactsT [] w = True := rfl
theorem factsT_rd {α : Type} {r : Rdr α} {cs : List Value} {a : α} {w : World} {l : List Rd} : FactsT (rd r cs a :: l) w = FactsT l w := by show (True ∧ _) = _; simp
theorem factsT_rdS {α : Type} {r : Rdr α} {v : Value} {a : List α} {w : World} {l : List Rd} : FactsT (rdS r v a :: l) w = FactsT l w := by show (True ∧ _) = _; simp
theorem factsT_rdE {b o : Nat} {cs : List Value} {w : World} {l : List Rd} : FactsT (rdE b o cs :: l) w = (rng w b o cs.length = some cs ∧ CellsAt w b o 0 cs ∧ FactsT l w) := by
  show ((_ ∧ _) ∧ _) = _
  simp only [and_assoc]
/-- the readings at the end, as a caller has them -/
theorem zone_fresh : Stay (zone w0 z O w) w (Fresh z w0 w) w := fun b hb _ => by
  refine ⟨rfl, ?_⟩
  by_cases h : b < w0.heap.size
  · exact .inl (hb.1 h)
  · exact .inr ⟨by omega, hb.2.1⟩
theorem St.end_rd (H : St w0 G z O T w) (i : Nat) {r : Rd} (h : T[i]? = some r) : r.p (Fresh z w0 w) w := r.stay (H.rd i h) zone_fresh
end
end Go.Proofs.YtomblhnchdokmaaGreatDoor

namespace Go.Proofs.YtomblhnchdokmaaGreatDoor
set_option linter.unusedSimpArgs false
set_option linter.unusedVariables false
open Go.RowKit
set_option maxRecDepth 10000

def putAt (cs : List Value) (o : Nat) (new : List Value) : List Value := cs.take o ++ new ++ cs.drop (o + new.length)
theorem putAt_len {cs : List Value} {o : Nat} {new : List Value} (h : o + new.length ≤ cs.length) : (putAt cs o new).length = cs.length := by
  unfold putAt; simp only [List.length_append, List.length_take, List.length_drop]; omega

section
variable {P : Program} {ops : Array Oper} {Q : Exit → Act → World → Prop} {w0 w : World} {G z : Nat → Prop} {O : List As} {T : List Rd} {l rest : List Oper} {o : Oper} {a : Act}

theorem wl_absorb {cs : Array Value} {t : TypeId} (H : St w0 G z O T w) (h : ∀ W, St w0 G z (va w.heap.size cs.toList t :: O) T W → w.heap.size < W.heap.size → wpList P ops Q l a W) : wpList P ops Q l a (w.alloc (.cells cs t)) :=
  h _ (H.alloc cs.toList t) (by simp)
theorem cw_absorb {cs : Array Value} {t : TypeId} {c : Code} (H : St w0 G z O T w) (h : ∀ W, St w0 G z (va w.heap.size cs.toList t :: O) T W → w.heap.size < W.heap.size → c.wp P Q a W) : c.wp P Q a (w.alloc (.cells cs t)) :=
  h _ (H.alloc cs.toList t) (by simp)
theorem wl_drew (H : St w0 G z O T w) (h : ∀ W, St w0 G z O T W → w.heap.size ≤ W.heap.size → wpList P ops Q l a W) : wpList P ops Q l a w.drew := h _ (H.draw 1) (Nat.le_refl _)

theorem wl_drewN {n : Nat} (H : St w0 G z O T w) (h : ∀ W, St w0 G z O T W → w.heap.size ≤ W.heap.size → wpList P ops Q l a W) : wpList P ops Q l a (w.drewN n) := h _ (H.draw n) (Nat.le_refl _)
theorem cw_drewN {n : Nat} {c : Code} (H : St w0 G z O T w) (h : ∀ W, St w0 G z O T W → w.heap.size ≤ W.heap.size → c.wp P Q a W) : c.wp P Q a (w.drewN n) := h _ (H.draw n) (Nat.le_refl _)

theorem run_storeCells {t : TypeId} {B : Nat} : ∀ (new : List Value) (cs : List Value) (off i : Nat) (w : World), w.heap[B]? = some (.cells cs.toArray t (0, 0)) → off + i + new.length ≤ cs.length → (∀ u ∈ new, u.oneCell' = true) →
    ∃ w', (storeCells ⟨B, off, none⟩ new i).run P w = .ok () w' ∧ w'.heap[B]? = some (.cells (putAt cs (off + i) new).toArray t (0, 0)) ∧ Kpt w w' (fun b => b = B)
  | [], cs, off, i, w, hb, _, _ => ⟨w, rfl, by rw [hb]; simp [putAt], Kpt.refl _ _⟩
  | v :: new, cs, off, i, w, hb, hle, h1 => by
    have hv := h1 v List.mem_cons_self
    simp only [List.length_cons] at hle
    have hadd : (⟨B, off, none⟩ : Addr).add i = ⟨B, off + i, none⟩ := by unfold Addr.add; split <;> simp_all
    have hc : w.cell? ⟨B, off + i, none⟩ = some cs[off + i] := by rw [cell_of_row w B _ _ _ _ hb]; simp
    have hset : (w.setCell ⟨B, off + i, none⟩ v).heap[B]? = some (.cells (cs.set (off + i) v).toArray t (0, 0)) := by
      simp [World.setCell, Array.getElem?_modify, hb]
    obtain ⟨w', h2, h3, h4⟩ := run_storeCells new (cs.set (off + i) v) off (i + 1) (w.setCell ⟨B, off + i, none⟩ v) hset (by simp; omega) (fun u hu => h1 u (List.mem_cons_of_mem _ hu))
    refine ⟨w', ?_, ?_, ?_⟩
    · have hst : (store ((⟨B, off, none⟩ : Addr).add i) v).run P w = .ok () (w.setCell ⟨B, off + i, none⟩ v) := by
        rw [hadd]
        unfold store
        cases v <;> simp [Value.oneCell'] at hv <;> simp [Sem.run, hc, frozen_of_row w B _ _ _ hb]
      unfold storeCells
      simp only [Sem.run_bind, hst, Result.andThen_ok, h2]
    · rw [h3]
      congr 3
      unfold putAt
      rw [show off + (i + 1) = off + i + 1 by omega, List.take_add_one, List.take_set_of_le (by omega), List.getElem?_set_self (by omega), List.drop_set_of_lt (by omega)]
      simp only [List.length_cons, Option.toList_some, List.append_assoc, List.cons_append, List.nil_append]
      rw [show off + i + 1 + new.length = off + i + (new.length + 1) by omega]
    · refine ⟨h4.os.trans rfl, h4.tape.trans rfl, h4.output.trans rfl, Nat.le_trans (by simp [World.setCell]) h4.size, fun k hk hn => (h4.block k (by simpa [World.setCell] using hk) hn).trans ?_⟩
      exact Below.heap_setCell w _ v k hn
theorem St.put (H : St w0 G z O T w) (i : Nat) {B : Nat} {cs : List Value} {t : TypeId} (hO : O[i]? = some (va B cs t)) (off : Nat) (new : List Value) (hle : off + new.length ≤ cs.length) (h1 : ∀ u ∈ new, u.oneCell' = true) :
    ∃ W, (storeCells ⟨B, off, none⟩ new).run P w = .ok () W ∧ St w0 G z (O.set i (va B (putAt cs off new) t)) T W ∧ w.heap.size ≤ W.heap.size := by
  have hb : w.heap[B]? = some (.cells cs.toArray t (0, 0)) := H.has i hO
  obtain ⟨w', h2, h3, h4⟩ := run_storeCells (P := P) new cs off 0 w hb (by omega) h1
  refine ⟨w', h2, ?_, h4.size⟩
  have := H.upd i hO (va B (putAt cs off new) t) (w' := w') h4 h3 (fun b hb => .inl hb) [] (by simp)
  simpa using this
theorem exec_store_at {ev : Operand → Value} {ty : TypeId} {x y : Operand} {B off : Nat} {new : List Value} (ho : o.op = .store ty x y) (hx : ev x = .pointer (some ⟨B, off, none⟩)) (hn : (ev y).cells.toList = new) (hsz : (P.info? ty).map (·.size) = some new.length)
    {W : World} (h : (storeCells ⟨B, off, none⟩ new).run P w = .ok () W) : (execOp ev o).run P w = .ok .skip W := by
  obtain ⟨i, hi1, hi2⟩ : ∃ i, P.info? ty = some i ∧ i.size = new.length := by
    cases h : P.info? ty with
    | none => simp [h] at hsz
    | some i => simp [h] at hsz; exact ⟨i, rfl, hsz⟩
  have hs : (ev y).cells.size = new.length := by rw [← hn]; simp
  unfold execOp
  simp [ho, hx, Instr.storeAt, Instr.sureAddr, storeVar, sizeOf, typeInfo, hi1, hi2, hs, hn, h]
/-- a store into a variable -/
theorem wl_store (H : St w0 G z O T w) (i : Nat) {B : Nat} {cs : List Value} {t : TypeId} (hO : O[i]? = some (va B cs t)) {ty : TypeId} {x y : Operand} (ho : o.op = .store ty x y) {off : Nat} (hx : a.eval x = .pointer (some ⟨B, off, none⟩)) (hw : Region.wanted o (yielded ops a.tmps) = true)
    {new : List Value} (hn : (a.eval y).cells.toList = new) (hsz : (P.info? ty).map (·.size) = some new.length) (hle : off + new.length ≤ cs.length) (h1 : ∀ u ∈ new, u.oneCell' = true)
    (h : ∀ W, St w0 G z (O.set i (va B (putAt cs off new) t)) T W → w.heap.size ≤ W.heap.size → wpList P ops Q rest (a.put o.dst undef) W) : wpList P ops Q (o :: rest) a w := by
  obtain ⟨W, h2, h3, h4⟩ := H.put (P := P) i hO off new hle h1
  refine BigFrame.wpList_want hw fun K hK => ?_
  unfold Oper.wp
  rw [exec_store_at ho hx hn hsz h2, Oper.upon_skip]
  exact hK _ _ (h W h3 h4)

/-- an append to what is owned -/
theorem run_append_vec {t e size bytes : Nat} {zv : Value} (hE : ElemOf P t e size bytes zv) {ty : TypeId} {v : Value} {n : Nat} {xs : List Value} (hown : w.ownsRow 0 e size v n xs) {src : Value} {m : Nat} {news : List Value} (hsrc : SrcOf w size src m news)
    (hbytes : (n + m) * bytes ≤ 140737488355328) :
    ∃ v' w', (Builtin.append_ #[t, t] ty #[v, src]).run P w = .ok v' w' ∧ w'.ownsRow 0 e size v' (n + m) (xs ++ news) ∧ w.grownBy w' v.ownBlock ∧ (v'.ownBlock = v.ownBlock ∨ v'.ownBlock = some w.heap.size) := by
  obtain ⟨ht, ⟨i, hi, hz, hsize, hby⟩, hzs, hpos, hone⟩ := hE
  have h63 : n + m ≤ maxLen := by
    have := Nat.le_trans (Nat.le_mul_of_pos_right (n + m) hone) hbytes
    unfold maxLen; omega
  rcases hsrc with ⟨rfl, rfl, rfl⟩ | ⟨ad, c, rfl, hl, hnews, h1⟩
  · exact ⟨v, w, run_append_owned_none (P := P) w 0 t ty e i size ht hi v n xs hown, by simpa using hown, ⟨rfl, rfl, rfl, Nat.le_refl _, fun _ _ _ => rfl⟩, .inl rfl⟩
  · obtain ⟨v', w', h2, h3, h4, _, h5⟩ := run_append_own_at (P := P) (w := w) 0 t ty e i zv size bytes ht hi hz hsize hby hzs hpos v n xs hown ad m c news hl hnews h1 h63 hbytes (Nat.zero_le _)
    exact ⟨v', w', h2, h3, h4, h5⟩
theorem St.app (H : St w0 G z O T w) (i : Nat) {t e size bytes : Nat} {zv : Value} (hE : ElemOf P t e size bytes zv) {ty : TypeId} {v : Value} {n : Nat} {xs : List Value} (hO : O[i]? = some (vec e size v n xs)) {src : Value} {m : Nat} {news : List Value} (hsrc : SrcOf w size src m news)
    (hbytes : (n + m) * bytes ≤ 140737488355328) :
    ∃ v' W, (Builtin.append_ #[t, t] ty #[v, src]).run P w = .ok v' W ∧ St w0 G z (O.set i (vec e size v' (n + m) (xs ++ news))) T W ∧ w.heap.size ≤ W.heap.size := by
  obtain ⟨v', W, h1, h2, h3, h4⟩ := run_append_vec (ty := ty) hE (H.has i hO) hsrc hbytes
  refine ⟨v', W, h1, ?_, h3.size⟩
  have := H.upd i hO (vec e size v' (n + m) (xs ++ news)) (w' := W) ⟨h3.os, h3.tape, h3.output, h3.size, fun k hk hn => h3.block k hk (fun e => hn e.symm)⟩ h2 (fun b hb => ?_) [] (by simp)
  · simpa using this
  · rcases h4 with h | h
    · exact .inl (by show v.ownBlock = some b; rw [← h]; exact hb)
    · have hb' : v'.ownBlock = some b := hb
      rw [h] at hb'; cases hb'; exact .inr (Nat.le_refl _)
theorem wl_append (H : St w0 G z O T w) (i : Nat) {t e size bytes : Nat} {zv : Value} {v : Value} {n : Nat} {xs : List Value} (hO : O[i]? = some (vec e size v n xs)) (hE : ElemOf P t e size bytes zv) {s x : Operand} (ho : o.op = .call { callee := .builtin .append, args := #[s, x], argTypes := #[t, t] })
    (hs : a.eval s = v) (hw : Region.wanted o (yielded ops a.tmps) = true) {src : Value} {m : Nat} {news : List Value} (hx : a.eval x = src) (hsrc : SrcOf w size src m news) (hbytes : (n + m) * bytes ≤ 140737488355328)
    (h : ∀ v' W, St w0 G z (O.set i (vec e size v' (n + m) (xs ++ news))) T W → w.heap.size ≤ W.heap.size → wpList P ops Q rest (a.put o.dst v') W) : wpList P ops Q (o :: rest) a w := by
  obtain ⟨v', W, h1, h2, h3⟩ := H.app (P := P) (ty := o.type) i hE hO hsrc hbytes
  refine BigFrame.wpList_want hw fun K hK => ?_
  unfold Oper.wp
  have hr : (execOp a.eval o).run P w = .ok (.value v') W := by
    simp [execOp, ho, resolve, invoke, builtin, hs, hx, h1, Result.andThen]
  rw [hr, Oper.upon_value]
  exact hK _ _ (h v' W h2 h3)
/-- nothing yet -/
theorem St.empty (H : St w0 G z O T w) (e size : Nat) : St w0 G z (vec e size (.slice none 0 0) 0 [] :: O) T w := by
  have := H.grow [vec e size (.slice none 0 0) 0 []] [] (Below.refl _ _) (by simp only [List.mem_singleton, forall_eq]; exact ⟨by simp, .inl ⟨rfl, rfl⟩⟩) (by simp only [List.mem_singleton, forall_eq]; rintro b h; cases h) (List.pairwise_singleton _ _) (by simp)
  simpa using this

theorem flat_get {α : Type} {n : Nat} {f : α → List Value} (hf : ∀ x, (f x).length = n) (hn : 0 < n) : ∀ (l : List α) (j : Nat) (u : Value), (l.map f).flatten[j]? = some u → ∃ x, l[j / n]? = some x ∧ (f x)[j % n]? = some u
  | [], j, u, h => by simp at h
  | x :: l, j, u, h => by
    simp only [List.map_cons, List.flatten_cons] at h
    by_cases hj : j < n
    · rw [List.getElem?_append_left (by rw [hf]; exact hj)] at h
      exact ⟨x, by rw [Nat.div_eq_of_lt hj]; rfl, by rw [Nat.mod_eq_of_lt hj]; exact h⟩
    · rw [List.getElem?_append_right (by rw [hf]; omega), hf] at h
      obtain ⟨y, h1, h2⟩ := flat_get hf hn l (j - n) u h
      have e : j = j - n + n := by omega
      refine ⟨y, ?_, ?_⟩
      · rw [e, Nat.add_div_right _ hn]; exact h1
      · rw [e, Nat.add_mod_right]; exact h2
theorem flat_len {α : Type} {n : Nat} {f : α → List Value} (hf : ∀ x, (f x).length = n) (l : List α) : (l.map f).flatten.length = l.length * n := by
  induction l with
  | nil => simp
  | cons x l ih => simp only [List.map_cons, List.flatten_cons, List.length_append, hf, ih, List.length_cons, Nat.add_mul]; omega
/-- a slice that is read, as the source of an append -/
theorem SlZ.src {α : Type} {r : Rdr α} {v : Value} {l : List α} (h : SlZ r z w v l) (hn : 0 < r.n) {f : α → List Value} (hf : ∀ {z w cs x}, r.R z w cs x → cs = f x) (hl : ∀ x, (f x).length = r.n) (h1 : ∀ x, ∀ u ∈ f x, u.oneCell' = true) : SrcOf w r.n v l.length (l.map f).flatten := by
  obtain ⟨ad, cap, rfl, h2, h3, h4, h5⟩ := h
  by_cases e : l = []
  · subst e
    cases ad with
    | none => have := h4 rfl; subst this; exact .inl ⟨rfl, rfl, rfl⟩
    | some ad => exact .inr ⟨ad, cap, rfl, by simp, by simp, by simp⟩
  · obtain ⟨b, o, rfl, hz, hr⟩ := h5 e
    refine .inr ⟨⟨b, o, none⟩, cap, rfl, flat_len hl l, fun j u hu => ?_, fun u hu => ?_⟩
    · obtain ⟨x, hx, hu'⟩ := flat_get hl hn l j u hu
      obtain ⟨cs, g1, g2⟩ := hr _ x hx
      have := hf g2
      subst this
      have hadd : (⟨b, o, none⟩ : Addr).add j = ⟨b, o + j, none⟩ := by unfold Addr.add; split <;> simp_all
      have := rng_at g1 _ _ hu'
      rw [hadd, show o + j = o + j / r.n * r.n + j % r.n by have := Nat.div_add_mod' j r.n; omega]
      exact this
    · obtain ⟨y, hy, hu⟩ := List.mem_flatten.1 hu
      obtain ⟨x, _, rfl⟩ := List.mem_map.1 hy
      exact h1 x u hu
/-- a block of one's own, as the source of an append -/
theorem src_va {w : World} {B : Nat} {cs : List Value} {t : TypeId} (h : (va B cs t).holds w) (size m c : Nat) (hl : cs.length = m * size) (h1 : ∀ u ∈ cs, u.oneCell' = true) : SrcOf w size (.slice (some ⟨B, 0, none⟩) m c) m cs := by
  have := src_block (w := w) size m c h (by simpa using hl) (by simpa using h1)
  simpa using this
theorem flat_at {α : Type} {n : Nat} {f : α → List Value} (hl : ∀ x, (f x).length = n) : ∀ (l : List α) (i : Nat) (x : α), l[i]? = some x → ((l.map f).flatten.drop (i * n)).take n = f x
  | [], i, x, h => by simp at h
  | y :: l, 0, x, h => by
    simp only [List.getElem?_cons_zero, Option.some.injEq] at h
    subst h
    simp only [Nat.zero_mul, List.drop_zero, List.map_cons, List.flatten_cons]
    rw [List.take_append_of_le_length (by rw [hl]; exact Nat.le_refl _), List.take_of_length_le (by rw [hl]; exact Nat.le_refl _)]
  | y :: l, i + 1, x, h => by
    simp only [List.getElem?_cons_succ] at h
    simp only [List.map_cons, List.flatten_cons]
    rw [Nat.succ_mul, List.drop_append, hl, List.drop_of_length_le (by rw [hl]; omega), List.nil_append, show i * n + n - n = i * n by omega]
    exact flat_at hl l i x h
/-- what was put together is read -/
theorem slz_vec {α : Type} {r : Rdr α} {e : TypeId} {v : Value} {l : List α} {f : α → List Value} {n : Nat} (h : w.ownsRow 0 e r.n v n (l.map f).flatten) (hl : ∀ x, (f x).length = r.n) (hn : 0 < r.n) (hz : ∀ b, v.ownBlock = some b → z b) (hf : ∀ x ∈ l, r.R z w (f x) x) : SlZ r z w v l := by
  have hln : n = l.length := by
    have := h.1; rw [flat_len hl] at this; exact (Nat.eq_of_mul_eq_mul_right hn this).symm
  subst hln
  rcases h.2 with ⟨rfl, h0⟩ | ⟨g, cap, cur, rfl, -, hg, hnc, hcm, hcs, htk⟩
  · rw [List.eq_nil_of_length_eq_zero h0]; exact SlZ.nil r z w
  · refine ⟨_, cap, rfl, hnc, hcm, (by intro h; cases h), fun _ => ⟨g, 0, rfl, hz g rfl, fun i x hx => ⟨f x, ?_, hf x (List.mem_of_getElem? hx)⟩⟩⟩
    have hi := (List.getElem?_eq_some_iff.1 hx).1
    have hle : i * r.n + r.n ≤ l.length * r.n := by rw [← Nat.succ_mul]; exact Nat.mul_le_mul_right _ hi
    have hle2 : l.length * r.n ≤ cap * r.n := Nat.mul_le_mul_right _ hnc
    unfold rng
    rw [hg]
    simp only [Nat.zero_add]
    rw [if_pos (by rw [hcs]; omega)]
    congr 1
    have : (cur.toList.drop (i * r.n)).take r.n = ((l.map f).flatten.drop (i * r.n)).take r.n := by
      rw [← htk, List.drop_take, List.take_take, Nat.min_eq_left (by omega)]
    rw [this]
    exact flat_at hl l i x hx
theorem run_loadVar_va {B : Nat} {cs : List Value} {t ty : TypeId} {n : Nat} (h : (va B cs t).holds w) (R : RowOf P ty n) (hn : cs.length = n) : (loadVar ty ⟨B, 0, none⟩).run P w = .ok (.agg cs.toArray) w := by
  obtain ⟨d, hu, hd⟩ : ∃ d, P.underlying ty = some d ∧ d.isRow = true := by
    have := R.und
    cases h : P.underlying ty with
    | none => simp [h] at this
    | some d => simp [h] at this; exact ⟨d, rfl, this⟩
  refine run_loadVar_mid w B 0 ty cs d (fun j v hv => ?_) hu hd (by rw [R.size, hn])
  have hb : w.heap[B]? = some (.cells cs.toArray t (0, 0)) := h
  rw [Nat.zero_add, cell_of_row w B j _ _ _ hb]; simpa using hv
theorem results_cell' {fn : Func} {p : Tmp} {ty : TypeId} (h : fn.results = #[.cell p ty]) (tmps : Array Value) (P : Program) (w : World) :
    (results fn tmps).run P w = ((asAddr (tmps.getD p undef)).run P w).andThen fun a w₁ => ((loadVar ty a).run P w₁).andThen fun v w₂ => .ok v w₂ := by
  simp [results, h]
  congr 1
  funext a w1
  cases (loadVar ty a).run P w1 <;> rfl
theorem ret_ct {fn : Func} {tmps : Array Value} {p q ty n : Nat} {B : Nat} {cs : List Value} {t : TypeId} {v : Value} (h : fn.results = #[.cell p ty, .tmp q]) (hp : tmps.getD p undef = .pointer (some ⟨B, 0, none⟩)) (hq : tmps.getD q undef = v) (hv : (va B cs t).holds w) (R : RowOf P ty n) (hn : cs.length = n) :
    (results fn tmps).run P w = .ok (.tuple #[.agg cs.toArray, v]) w := by
  rw [results_cell_tmp h, hp, hq]
  simp only [asAddr, Sem.run_pure, Result.andThen_ok, run_loadVar_va hv R hn]
theorem ret_c {fn : Func} {tmps : Array Value} {p ty n : Nat} {B : Nat} {cs : List Value} {t : TypeId} (h : fn.results = #[.cell p ty]) (hp : tmps.getD p undef = .pointer (some ⟨B, 0, none⟩)) (hv : (va B cs t).holds w) (R : RowOf P ty n) (hn : cs.length = n) :
    (results fn tmps).run P w = .ok (.agg cs.toArray) w := by
  rw [results_cell' h, hp]
  simp only [asAddr, Sem.run_pure, Result.andThen_ok, run_loadVar_va hv R hn]
theorem St.end_vec {e size n : Nat} {v : Value} {xs : List Value} (H : St w0 (fun _ => False) z (vec e size v n xs :: O) T w) : Below w0.heap.size w0 w ∧ w.ownsRow 0 e size v n xs ∧ ∀ b, v.ownBlock = some b → w0.heap.size ≤ b :=
  ⟨H.below', H.has 0 rfl, fun b hb => (H.new _ List.mem_cons_self b hb).resolve_right id⟩
theorem St.end_slz {α : Type} {r : Rdr α} {f : α → List Value} {e n : Nat} {v : Value} {l : List α} (H : St w0 (fun _ => False) z O T w) (i : Nat) (hO : O[i]? = some (vec e r.n v n (l.map f).flatten)) (hl : ∀ x, (f x).length = r.n) (hn : 0 < r.n) (hf : ∀ {z w x}, r.R z w (f x) x) : SlZ r (Fresh z w0 w) w v l :=
  slz_vec (H.has i hO) hl hn (fun b hb => .inr ⟨(H.new _ (List.mem_of_getElem? hO) b hb).resolve_right id, H.lt (List.mem_of_getElem? hO) hb⟩) (fun x _ => hf)
theorem own_slz {α : Type} {r : Rdr α} {f : α → List Value} {e n : Nat} {v : Value} {l : List α} {w w' : World} (h : w'.ownsRow w.heap.size e r.n v n (l.map f).flatten) (hl : ∀ x, (f x).length = r.n) (hn : 0 < r.n) (hf : ∀ {z w x}, r.R z w (f x) x) : SlZ r (Fresh z w w') w' v l := by
  have h0 : w'.ownsRow 0 e r.n v n (l.map f).flatten := ⟨h.1, h.2.imp_right (by rintro ⟨g, cap, cur, h1, h2, h3⟩; exact ⟨g, cap, cur, h1, Nat.zero_le _, h3⟩)⟩
  exact slz_vec h0 hl hn (fun b hb => .inr (h.lt b hb)) (fun x _ => hf)
theorem rng_sub {w : World} {b o n : Nat} {cs : List Value} (h : rng w b o n = some cs) (k m : Nat) (hk : k + m ≤ n) : rng w b (o + k) m = some ((cs.drop k).take m) := by
  unfold rng at h ⊢
  split at h
  · rename_i c t fr hb
    split at h
    · rename_i hle
      cases h
      simp only [show o + k + m ≤ c.size by omega, if_true, Option.some.injEq]
      rw [List.drop_take, List.drop_drop, List.take_take, Nat.min_eq_left (by omega)]
    · cases h
  · cases h
theorem ints_flat (l : List Int) : (l.map fun n => [Value.int .i64 n]).flatten = l.map (Value.int .i64) := by
  induction l with
  | nil => rfl
  | cons x l ih => simp [ih]
/-- the facts of a state, as one rule -/
theorem fxx : (∀ {w : World} {B : Nat} {cs : List Value} {t : TypeId} {l : List As}, Facts (va B cs t :: l) w = ((∀ k, w.cell? ⟨B, k, none⟩ = cs[k]?) ∧ (∀ k, w.frozen? ⟨B, k, none⟩ = false) ∧ (∀ o n, rng w B o n = if o + n ≤ cs.length then some ((cs.drop o).take n) else none) ∧ Facts l w)) ∧
    (∀ {w : World} {e size : Nat} {v : Value} {n : Nat} {xs : List Value} {l : List As}, Facts (vec e size v n xs :: l) w = Facts l w) ∧ (∀ {w : World}, FactsT [] w = True) ∧ (∀ {w : World}, Facts [] w = True) ∧
    (∀ {α : Type} {r : Rdr α} {cs : List Value} {a : α} {w : World} {l : List Rd}, FactsT (rd r cs a :: l) w = FactsT l w) ∧ (∀ {α : Type} {r : Rdr α} {v : Value} {a : List α} {w : World} {l : List Rd}, FactsT (rdS r v a :: l) w = FactsT l w) ∧
    (∀ {b o : Nat} {cs : List Value} {w : World} {l : List Rd}, FactsT (rdE b o cs :: l) w = (rng w b o cs.length = some cs ∧ CellsAt w b o 0 cs ∧ FactsT l w)) ∧
    (∀ {w : World} {b o i : Nat}, CellsAt w b o i [] = True) ∧ (∀ {w : World} {b o i : Nat} {v : Value} {cs : List Value}, CellsAt w b o i (v :: cs) = (w.cell? ⟨b, o + i, none⟩ = some v ∧ CellsAt w b o (i + 1) cs)) ∧
    (∀ (p : Prop), (p ∧ True) = p) ∧ (∀ (p : Prop), (True ∧ p) = p) ∧ (∀ {v : Value} {l : List Value}, (v :: l).length = l.length + 1) ∧ ([] : List Value).length = 0 ∧ (∀ (n : Nat), n + 0 = n) ∧ (∀ (n : Nat), 0 + n = n) ∧ (∀ (n : Nat), 0 * n = 0) ∧
    (∀ {α : Type} {x y : α} {l : List α}, (x :: l).set 0 y = y :: l) ∧ (∀ {α : Type} {x y : α} {l : List α} {i : Nat}, (x :: l).set (i + 1) y = x :: l.set i y) ∧
    1 + 1 = 2 ∧ 2 + 1 = 3 ∧ 3 + 1 = 4 ∧ 4 + 1 = 5 ∧ 5 + 1 = 6 ∧ 6 + 1 = 7 ∧ 7 + 1 = 8 ∧ 8 + 1 = 9 ∧ 9 + 1 = 10 ∧ 10 + 1 = 11 ∧ 11 + 1 = 12 ∧ 12 + 1 = 13 ∧ 13 + 1 = 14 ∧ 14 + 1 = 15 ∧ 15 + 1 = 16 :=
  ⟨facts_va, facts_vec, factsT_nil, facts_nil, factsT_rd, factsT_rdS, factsT_rdE, rfl, rfl, and_true, true_and, List.length_cons, List.length_nil, Nat.add_zero, Nat.zero_add, Nat.zero_mul, List.set_cons_zero, List.set_cons_succ, by decide⟩
theorem px : (∀ {cs : List Value} {o : Nat} {new : List Value}, putAt cs o new = cs.take o ++ new ++ cs.drop (o + new.length)) ∧ (∀ {v : Value} {l : List Value} {i : Nat}, (v :: l).take (i + 1) = v :: l.take i) ∧ (∀ {l : List Value}, l.take 0 = []) ∧
    (∀ {v : Value} {l : List Value} {i : Nat}, (v :: l).drop (i + 1) = l.drop i) ∧ (∀ {l : List Value}, l.drop 0 = l) ∧ (∀ {v : Value} {l m : List Value}, v :: l ++ m = v :: (l ++ m)) ∧ (∀ {l : List Value}, [] ++ l = l) ∧ (∀ {l : List Value}, l ++ [] = l) ∧
    (∀ {v : Value} {l : List Value}, (v :: l).length = l.length + 1) ∧ ([] : List Value).length = 0 ∧ (∀ (n : Nat), 0 + n = n) ∧ (∀ {α : Type} {x y : α} {l : List α}, (x :: l).set 0 y = y :: l) ∧ (∀ {α : Type} {x y : α} {l : List α} {i : Nat}, (x :: l).set (i + 1) y = x :: l.set i y) ∧
    1 + 1 = 2 ∧ 2 + 1 = 3 ∧ 3 + 1 = 4 ∧ 4 + 1 = 5 ∧ 5 + 1 = 6 ∧ 6 + 1 = 7 ∧ 7 + 1 = 8 ∧ 8 + 1 = 9 ∧ 9 + 1 = 10 ∧ 10 + 1 = 11 ∧ 11 + 1 = 12 ∧ 12 + 1 = 13 ∧ 13 + 1 = 14 ∧ 14 + 1 = 15 ∧ 15 + 1 = 16 :=
  ⟨rfl, List.take_succ_cons, List.take_zero, List.drop_succ_cons, List.drop_zero, List.cons_append, List.nil_append _, List.append_nil _, List.length_cons, List.length_nil, Nat.zero_add, List.set_cons_zero, List.set_cons_succ, by decide⟩
theorem pz : (∀ {t : Array Value} {ds : List Deferred} {i : Tmp} {v : Value}, Act.put ⟨t, ds⟩ (some i) v = ⟨t.setIfInBounds i v, ds⟩) ∧ (∀ {a : Act} {v : Value}, a.put none v = a) ∧ (∀ {l : List Value} {i : Nat} {v : Value}, l.toArray.setIfInBounds i v = (l.set i v).toArray) ∧ (∀ {α : Type} {x y : α} {l : List α}, (x :: l).set 0 y = y :: l) ∧ (∀ {α : Type} {x y : α} {l : List α} {i : Nat}, (x :: l).set (i + 1) y = x :: l.set i y) :=
  ⟨rfl, rfl, List.setIfInBounds_toArray .., List.set_cons_zero, List.set_cons_succ⟩
end
end Go.Proofs.YtomblhnchdokmaaGreatDoor
